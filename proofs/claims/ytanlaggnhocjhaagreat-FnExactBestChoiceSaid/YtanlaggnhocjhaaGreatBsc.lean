/- The best choice: the union of the best of each block; plain. -/
import Derived.Test.YtanlaggnhocjhaaGreatPtW
import Derived.Test.YtanlaggnhocjhaaGreatCost
namespace Go.Proofs.YtanlaggnhocjhaaGreat
set_option linter.unusedSimpArgs false
set_option linter.unusedVariables false
open Go.RowKit
/-! Bits. -/
def bt (s j : Nat) : Bool := decide (s / 2 ^ j % 2 = 1)
theorem bt_zero {s : Nat} : bt s 0 = decide (s % 2 = 1) := by simp [bt]
theorem bt_succ {s j : Nat} : bt s (j + 1) = bt (s / 2) j := by
  unfold bt
  rw [Nat.pow_succ, Nat.mul_comm, Nat.div_div_eq_div_mul]
theorem bt_surj : ∀ (k : Nat) (q : Nat → Bool), ∃ m, m < 2 ^ k ∧ ∀ j, j < k → bt m j = q j
  | 0, _ => ⟨0, by decide, fun j h => by omega⟩
  | k + 1, q => by
    obtain ⟨m, h1, h2⟩ := bt_surj k (fun j => q (j + 1))
    refine ⟨2 * m + (if q 0 then 1 else 0), by rw [Nat.pow_succ]; split <;> omega, fun j hj => ?_⟩
    cases j with
    | zero =>
      rw [bt_zero]
      cases q 0
      · simp
      · simp <;> omega
    | succ j =>
      rw [bt_succ, show (2 * m + (if q 0 then 1 else 0)) / 2 = m by split <;> omega]
      exact h2 j (by omega)
/-! The order of lists. -/
def lexL : List Int → List Int → Bool
  | [], [] => false
  | [], _ :: _ => true
  | _ :: _, [] => false
  | x :: xs, y :: ys => if x = y then lexL xs ys else decide (x < y)
theorem lexL_irr : ∀ {a : List Int}, lexL a a = false
  | [] => rfl
  | x :: xs => by
    unfold lexL
    rw [if_pos rfl]
    exact lexL_irr
theorem lexL_trans : ∀ {a b c : List Int}, lexL a b = true → lexL b c = true → lexL a c = true
  | [], [], _, h, _ => by simp [lexL] at h
  | [], _ :: _, [], _, h => by simp [lexL] at h
  | [], _ :: _, _ :: _, _, _ => rfl
  | _ :: _, [], _, h, _ => by simp [lexL] at h
  | _ :: _, _ :: _, [], _, h => by simp [lexL] at h
  | x :: xs, y :: ys, z :: zs, h, h' => by
    unfold lexL at h h' ⊢
    by_cases e1 : x = y
    · subst e1
      rw [if_pos rfl] at h
      by_cases e2 : x = z
      · rw [if_pos e2] at h' ⊢
        exact lexL_trans h h'
      · rw [if_neg e2] at h' ⊢
        exact h'
    · rw [if_neg e1, decide_eq_true_eq] at h
      by_cases e2 : y = z
      · subst e2
        rw [if_neg e1]
        exact decide_eq_true h
      · rw [if_neg e2, decide_eq_true_eq] at h'
        rw [if_neg (by omega)]
        exact decide_eq_true (by omega)
theorem lexL_tri : ∀ {a b : List Int}, a.length = b.length → lexL a b = false → lexL b a = false → a = b
  | [], [], _, _, _ => rfl
  | [], _ :: _, h, _, _ => by simp at h
  | _ :: _, [], h, _, _ => by simp at h
  | x :: xs, y :: ys, h, h1, h2 => by
    unfold lexL at h1 h2
    by_cases e : x = y
    · subst e
      rw [if_pos rfl] at h1 h2
      rw [lexL_tri (by simpa using h) h1 h2]
    · rw [if_neg e, decide_eq_false_iff_not] at h1
      rw [if_neg (fun h => e h.symm), decide_eq_false_iff_not] at h2
      omega
/-- The first that the one has and the other hasn't. -/
theorem lexL_has : ∀ {a b : List Int}, a.length = b.length → a.Pairwise (· < ·) → b.Pairwise (· < ·) → lexL a b = true → ∃ x, x ∈ a ∧ x ∉ b ∧ ∀ y, y < x → (y ∈ a ↔ y ∈ b)
  | [], [], _, _, _, h => by simp [lexL] at h
  | [], _ :: _, h, _, _, _ => by simp at h
  | _ :: _, [], h, _, _, _ => by simp at h
  | x :: xs, y :: ys, h, ha, hb, hl => by
    have ha1 := List.pairwise_cons.1 ha
    have hb1 := List.pairwise_cons.1 hb
    unfold lexL at hl
    by_cases e : x = y
    · subst e
      rw [if_pos rfl] at hl
      obtain ⟨z, h1, h2, h3⟩ := lexL_has (by simpa using h) ha1.2 hb1.2 hl
      have hxz := ha1.1 z h1
      refine ⟨z, List.mem_cons_of_mem _ h1, fun h4 => ?_, fun w hw => ?_⟩
      · rcases List.mem_cons.1 h4 with h4 | h4
        · omega
        · exact h2 h4
      · rw [List.mem_cons, List.mem_cons, h3 w hw]
    · rw [if_neg e, decide_eq_true_eq] at hl
      refine ⟨x, List.mem_cons_self, fun h4 => ?_, fun w hw => ?_⟩
      · rcases List.mem_cons.1 h4 with h4 | h4
        · exact e h4
        · have := hb1.1 x h4
          omega
      · constructor
        · intro h4
          rcases List.mem_cons.1 h4 with h4 | h4
          · omega
          · have := ha1.1 w h4
            omega
        · intro h4
          rcases List.mem_cons.1 h4 with h4 | h4
          · omega
          · have := hb1.1 w h4
            omega
theorem lexL_of : ∀ {a b : List Int}, a.length = b.length → a.Pairwise (· < ·) → b.Pairwise (· < ·) → ∀ {x : Int}, x ∈ a → x ∉ b → (∀ y, y < x → (y ∈ a ↔ y ∈ b)) → lexL a b = true
  | [], _, _, _, _, x, h, _, _ => by cases h
  | _ :: _, [], h, _, _, _, _, _, _ => by simp at h
  | u :: us, v :: vs, h, ha, hb, x, hx, hn, hall => by
    have ha1 := List.pairwise_cons.1 ha
    have hb1 := List.pairwise_cons.1 hb
    unfold lexL
    by_cases e : u = v
    · subst e
      rw [if_pos rfl]
      have hxu : x ≠ u := fun h9 => hn (by rw [h9]; exact List.mem_cons_self)
      have hxm : x ∈ us := by
        rcases List.mem_cons.1 hx with h4 | h4
        · exact absurd h4 hxu
        · exact h4
      refine lexL_of (by simpa using h) ha1.2 hb1.2 hxm (fun h4 => hn (List.mem_cons_of_mem _ h4)) fun y hy => ?_
      have h5 := hall y hy
      rw [List.mem_cons, List.mem_cons] at h5
      by_cases ey : y = u
      · subst ey
        constructor
        · intro h6
          have := ha1.1 y h6
          omega
        · intro h6
          have := hb1.1 y h6
          omega
      · simpa [ey] using h5
    · rw [if_neg e]
      refine decide_eq_true ?_
      rcases Int.lt_trichotomy u v with h4 | h4 | h4
      · exact h4
      · exact absurd h4 e
      · have hux : u ≤ x := by
          rcases List.mem_cons.1 hx with h5 | h5
          · omega
          · have := ha1.1 x h5
            omega
        have h6 := (hall v (by omega)).2 List.mem_cons_self
        rcases List.mem_cons.1 h6 with h7 | h7
        · omega
        · have := ha1.1 v h7
          omega
/-- Cost, length, order. -/
def kyL (c : Int) (a : List Int) (d : Int) (b : List Int) : Bool := decide (c < d) || (decide (c = d) && (decide (a.length < b.length) || (decide (a.length = b.length) && lexL a b)))
theorem kyL_t {c d : Int} {a b : List Int} : kyL c a d b = true ↔ c < d ∨ (c = d ∧ (a.length < b.length ∨ (a.length = b.length ∧ lexL a b = true))) := by
  simp only [kyL, Bool.or_eq_true, Bool.and_eq_true, decide_eq_true_eq]
theorem kyL_f {c d : Int} {a b : List Int} : kyL c a d b = false ↔ ¬ (c < d ∨ (c = d ∧ (a.length < b.length ∨ (a.length = b.length ∧ lexL a b = true)))) := by
  rw [← kyL_t]
  simp
theorem kyL_trans {c1 c2 c3 : Int} {a1 a2 a3 : List Int} (h : kyL c1 a1 c2 a2 = true) (h' : kyL c2 a2 c3 a3 = true) : kyL c1 a1 c3 a3 = true := by
  rw [kyL_t] at h h' ⊢
  rcases h with h | ⟨h, h1⟩
  · rcases h' with h' | ⟨h', _⟩
    · exact .inl (by omega)
    · exact .inl (by omega)
  · rcases h' with h' | ⟨h', h1'⟩
    · exact .inl (by omega)
    · refine .inr ⟨by omega, ?_⟩
      rcases h1 with h1 | ⟨h1, h2⟩
      · rcases h1' with h1' | ⟨h1', _⟩
        · exact .inl (by omega)
        · exact .inl (by omega)
      · rcases h1' with h1' | ⟨h1', h2'⟩
        · exact .inl (by omega)
        · exact .inr ⟨by omega, lexL_trans h2 h2'⟩
/-! The least. -/
def sel (ok : Nat → Bool) (c : Nat → Int) (a : Nat → List Int) : Nat → Option Nat
  | 0 => none
  | s + 1 => if ok s then (match sel ok c a s with | none => some s | some r => if kyL (c s) (a s) (c r) (a r) then some s else some r) else sel ok c a s
theorem sel_none {ok : Nat → Bool} {c : Nat → Int} {a : Nat → List Int} : ∀ {k : Nat}, sel ok c a k = none → ∀ s, s < k → ok s = false
  | 0, _, s, h => by omega
  | k + 1, h, s, hs => by
    unfold sel at h
    cases e : ok k
    · rw [e] at h
      simp only [Bool.false_eq_true, if_false] at h
      by_cases e2 : s = k
      · rw [e2]
        exact e
      · exact sel_none h s (by omega)
    · rw [e] at h
      simp only [if_true] at h
      cases e3 : sel ok c a k with
      | none =>
        rw [e3] at h
        simp at h
      | some r =>
        rw [e3] at h
        simp only at h
        split at h <;> simp at h
theorem sel_some {ok : Nat → Bool} {c : Nat → Int} {a : Nat → List Int} : ∀ {k r : Nat}, sel ok c a k = some r → r < k ∧ ok r = true ∧ ∀ s, s < k → ok s = true → kyL (c s) (a s) (c r) (a r) = false
  | 0, r, h => by simp [sel] at h
  | k + 1, r, h => by
    have hirr : ∀ s, kyL (c s) (a s) (c s) (a s) = false := fun s => by
      rw [kyL_f, lexL_irr]
      simp
    unfold sel at h
    cases e : ok k
    · rw [e] at h
      simp only [Bool.false_eq_true, if_false] at h
      obtain ⟨h1, h2, h3⟩ := sel_some h
      refine ⟨by omega, h2, fun s hs ho => ?_⟩
      by_cases e2 : s = k
      · rw [e2, e] at ho
        simp at ho
      · exact h3 s (by omega) ho
    · rw [e] at h
      simp only [if_true] at h
      cases e3 : sel ok c a k with
      | none =>
        rw [e3] at h
        injection h with h
        subst h
        refine ⟨by omega, e, fun s hs ho => ?_⟩
        by_cases e2 : s = k
        · rw [e2]
          exact hirr k
        · rw [sel_none e3 s (by omega)] at ho
          simp at ho
      | some q =>
        rw [e3] at h
        simp only at h
        obtain ⟨h1, h2, h3⟩ := sel_some e3
        cases e4 : kyL (c k) (a k) (c q) (a q)
        · rw [e4] at h
          simp only [Bool.false_eq_true, if_false] at h
          injection h with h
          subst h
          refine ⟨by omega, h2, fun s hs ho => ?_⟩
          by_cases e2 : s = k
          · rw [e2]
            exact e4
          · exact h3 s (by omega) ho
        · rw [e4] at h
          simp only [if_true] at h
          injection h with h
          subst h
          refine ⟨by omega, e, fun s hs ho => ?_⟩
          by_cases e2 : s = k
          · rw [e2]
            exact hirr k
          · cases e5 : kyL (c s) (a s) (c k) (a k)
            · rfl
            · have h6 := h3 s (by omega) ho
              rw [kyL_trans e5 e4] at h6
              simp at h6
theorem sel_ex {ok : Nat → Bool} {c : Nat → Int} {a : Nat → List Int} {k s : Nat} (hs : s < k) (ho : ok s = true) : ∃ r, sel ok c a k = some r := by
  cases e : sel ok c a k with
  | some r => exact ⟨r, rfl⟩
  | none =>
    rw [sel_none e s hs] at ho
    simp at ho
end Go.Proofs.YtanlaggnhocjhaaGreat
namespace Go.Proofs.YtanlaggnhocjhaaGreat
set_option linter.unusedSimpArgs false
set_option linter.unusedVariables false
open Go.RowKit
theorem ix_ex {α : Type} [Inhabited α] {xs : List α} {x : α} (h : x ∈ xs) : ∃ j : Nat, j < xs.length ∧ ix xs (j : Int) = x := by
  obtain ⟨i, hi, e⟩ := List.mem_iff_getElem.1 h
  exact ⟨i, hi, (ix_elem hi).trans e⟩
/-! Each trip is in one block. -/
structure Prt (t : Tab) (B : List (List Int)) : Prop where
  nd : B.flatten.Nodup
  ids : ∀ x ∈ B.flatten, 0 ≤ fndT t x
  cov : ∀ j : Nat, (j : Int) < t.T.length → (ix t.T j).I ∈ B.flatten
  pm : (B.flatten.map (fndT t)).Perm ((List.range t.T.length).map fun j : Nat => (j : Int))
theorem sx_all {t : Tab} {f : Flt} {B : List (List Int)} (h : blkB t f B = true) : ∀ {i : Nat}, i ≤ B.length → SxOk t (sixB t B i 0)
  | 0, _ => by rw [sixB_zero]; exact SxOk.nil
  | i + 1, hi => by
    have h1 := sx_all h (i := i) (by omega)
    have h2 : ∀ k : Nat, k ≤ (ix B i).length → SxOk t (sixB t B i k) := fun k => by
      induction k with
      | zero => exact fun _ => h1
      | succ k ih =>
        intro hk
        have h3 := idOk_k ((blkB_k h (i := i) (by omega)).2 k (by omega))
        exact (ih (by omega)).step (by omega) h3.1 h3.2.1
    rw [sixB_next (k := (ix B i).length) (by omega) (by omega)]
    exact h2 _ (Nat.le_refl _)
theorem Prt.of {t : Tab} {f : Flt} {B : List (List Int)} (h : blkB t f B = true) : Prt t B := by
  have h1 := sx_all h (i := B.length) (Nat.le_refl _)
  have h2 := blkB_n h
  rw [sixB, seenL_all (Nat.le_refl _)] at h1
  have hids : ∀ x ∈ B.flatten, 0 ≤ fndT t x := fun x hx => (h1.2 _ (List.mem_map_of_mem hx)).1
  have hall : ∀ j : Nat, (j : Int) < t.T.length → (j : Int) ∈ B.flatten.map (fndT t) := fun j hj => by
    by_cases hm : (j : Int) ∈ B.flatten.map (fndT t)
    · exact hm
    · have h3 := pigeon (n := t.T.length) (l := (j : Int) :: B.flatten.map (fndT t)) (List.nodup_cons.2 ⟨hm, h1.1⟩) fun x hx => by
        rcases List.mem_cons.1 hx with rfl | hx
        · omega
        · exact h1.2 x hx
      rw [List.length_cons, List.length_map] at h3
      omega
  refine ⟨?_, hids, fun j hj => ?_, ?_⟩
  · have := h1.1
    unfold List.Nodup at this ⊢
    rw [List.pairwise_map] at this
    exact this.imp fun h e => h (by rw [e])
  · obtain ⟨x, hx, e⟩ := List.mem_map.1 (hall j hj)
    have h3 := fndT_val (hids x hx)
    rw [e] at h3
    rw [h3]
    exact hx
  · refine (List.perm_ext_iff_of_nodup h1.1 ?_).2 fun a => ⟨fun ha => ?_, fun ha => ?_⟩
    · unfold List.Nodup
      rw [List.pairwise_map]
      exact (List.pairwise_lt_range (n := t.T.length)).imp fun h => by omega
    · have := h1.2 a ha
      exact List.mem_map.2 ⟨a.toNat, List.mem_range.2 (by omega), by omega⟩
    · obtain ⟨j, hj, rfl⟩ := List.mem_map.1 ha
      exact hall j (by have := List.mem_range.1 hj; omega)
theorem fnd_inj {t : Tab} {x y : Int} (hx : 0 ≤ fndT t x) (hy : 0 ≤ fndT t y) (h : fndT t x = fndT t y) : x = y := by
  have h1 := fndT_val hx
  have h2 := fndT_val hy
  rw [h] at h1
  exact h1.symm.trans h2
theorem Prt.one {t : Tab} {B : List (List Int)} (h : Prt t B) {i j : Nat} (hi : (i : Int) < B.length) (hj : (j : Int) < B.length) {x : Int} (hx : x ∈ ix B i) (hy : x ∈ ix B j) : i = j := by
  have h1 := (List.pairwise_flatten.1 h.nd).2
  rw [List.pairwise_iff_getElem] at h1
  rw [ix_elem (by omega)] at hx hy
  rcases Nat.lt_trichotomy i j with h2 | h2 | h2
  · exact absurd rfl (h1 i j (by omega) (by omega) h2 x hx x hy)
  · exact h2
  · exact absurd rfl (h1 j i (by omega) (by omega) h2 x hy x hx)
theorem Prt.rnd {t : Tab} {B : List (List Int)} (h : Prt t B) {b : List Int} (hb : b ∈ B) : b.Nodup := (List.pairwise_flatten.1 h.nd).1 b hb
/-! Delays, row by row. -/
theorem dIn_row {t : Tab} {f : Flt} {B B' : List (List Int)} {xs : List Dly} {i i' : Nat} (h : ix B i = ix B' i') {o : List Int} : ∀ {k : Nat}, dIn t f B xs i k o = dIn t f B' xs i' k o
  | 0 => rfl
  | k + 1 => by
    simp only [dIn, dIn_row h (k := k), nwD, stD, h]
theorem dIn_out {t : Tab} {f : Flt} {B : List (List Int)} {xs : List Dly} {i : Nat} {o : List Int} {a : Int} (h0 : 0 ≤ a ∧ a < o.length) : ∀ {k : Nat}, (∀ j : Nat, j < k → 0 ≤ fndT t (ix (ix B i) j) ∧ fndT t (ix (ix B i) j) ≠ a) → ix (dIn t f B xs i k o) a = ix o a
  | 0, _ => rfl
  | k + 1, h => by
    rw [dIn, ix_setI (h k (by omega)).1 h0.1 (by rw [dIn_len]; exact h0.2), if_neg (h k (by omega)).2]
    exact dIn_out h0 fun j hj => h j (by omega)
theorem dIn_same {t : Tab} {f : Flt} {B : List (List Int)} {xs : List Dly} {i : Nat} {o o' : List Int} (hl : o.length = t.T.length) (hl' : o'.length = t.T.length) : ∀ {k : Nat}, (∀ j : Nat, j < k → 0 ≤ fndT t (ix (ix B i) j)) → ∀ j : Nat, j < k → ix (dIn t f B xs i k o) (fndT t (ix (ix B i) j)) = ix (dIn t f B xs i k o') (fndT t (ix (ix B i) j))
  | 0, _, j, hj => by omega
  | k + 1, h, j, hj => by
    have hb := fun j => fndT_bd (t := t) (id := ix (ix B i) j)
    have hnw : nwD t f B xs (dIn t f B xs i k o) i k = nwD t f B xs (dIn t f B xs i k o') i k := by
      unfold nwD stD
      split
      · have := dIn_same (f := f) (xs := xs) hl hl' (k := k) (fun j hj => h j (by omega)) (k - 1) (by omega)
        rw [show ((k - 1 : Nat) : Int) = (k : Int) - 1 by omega] at this
        rw [this]
      · rfl
    rw [dIn, dIn, ix_setI (h k (by omega)) (h j hj) (by rw [dIn_len, hl]; exact (hb _).2), ix_setI (h k (by omega)) (h j hj) (by rw [dIn_len, hl']; exact (hb _).2), hnw]
    by_cases e : fndT t (ix (ix B i) k) = fndT t (ix (ix B i) j)
    · rw [if_pos e, if_pos e]
    · rw [if_neg e, if_neg e]
      by_cases e2 : j = k
      · exact absurd (by rw [e2]) e
      · exact dIn_same hl hl' (fun j hj => h j (by omega)) j (by omega)
theorem delR_row {t : Tab} {f : Flt} {B : List (List Int)} {xs : List Dly} {i : Nat} (hi : (i : Int) < B.length) {j : Nat} (hj : (j : Int) < (ix B i).length) (hids : ∀ i k : Nat, (i : Int) < B.length → (k : Int) < (ix B i).length → 0 ≤ fndT t (ix (ix B i) k)) (hone : ∀ i' k' : Nat, (i' : Int) < B.length → (k' : Int) < (ix B i').length → i' ≠ i → ix (ix B i') k' ≠ ix (ix B i) j) :
    ix (delR t f B xs) (fndT t (ix (ix B i) j)) = ix (delR t f [ix B i] xs) (fndT t (ix (ix B i) j)) := by
  have hb := fun j => fndT_bd (t := t) (id := ix (ix B i) j)
  have h0 := hids i j hi hj
  have hup : ∀ d : Nat, i + 1 + d ≤ B.length → ix (dOut t f B xs (i + 1 + d)) (fndT t (ix (ix B i) j)) = ix (dOut t f B xs (i + 1)) (fndT t (ix (ix B i) j)) := fun d => by
    induction d with
    | zero => exact fun _ => rfl
    | succ d ih =>
      intro hd
      rw [show i + 1 + (d + 1) = (i + 1 + d) + 1 by omega, dOut, dIn_out ⟨h0, by rw [dOut_len]; exact (hb _).2⟩ fun k' hk' => ?_]
      · exact ih (by omega)
      · have h1 := hids (i + 1 + d) k' (by omega) (by omega)
        exact ⟨h1, fun e => hone (i + 1 + d) k' (by omega) (by omega) (by omega) (fnd_inj h1 h0 e)⟩
  obtain ⟨d, hd⟩ : ∃ d, B.length = i + 1 + d := ⟨B.length - (i + 1), by omega⟩
  have e1 : delR t f B xs = dOut t f B xs (i + 1 + d) := by rw [delR, hd]
  have e2 : delR t f [ix B i] xs = dIn t f [ix B i] xs 0 (ix B i).length (List.replicate t.T.length 0) := rfl
  rw [e1, hup d (by omega), e2, dOut, dIn_row (B := [ix B i]) (B' := B) (i := 0) (i' := i) rfl]
  exact dIn_same dOut_len (by simp) (fun k hk => hids i k hi (by omega)) j (by omega)
/-! Sums. -/
def sumF {α : Type} (g : α → Int) : List α → Int
  | [] => 0
  | x :: xs => g x + sumF g xs
theorem sumF_app {α : Type} {g : α → Int} {ys : List α} : ∀ {xs : List α}, sumF g (xs ++ ys) = sumF g xs + sumF g ys
  | [] => by simp [sumF]
  | x :: xs => by
    have := sumF_app (g := g) (ys := ys) (xs := xs)
    simp only [List.cons_append, sumF]
    omega
theorem sumF_perm {α : Type} {g : α → Int} {xs ys : List α} (h : xs.Perm ys) : sumF g xs = sumF g ys := by
  induction h with
  | nil => rfl
  | cons x _ ih => simp only [sumF, ih]
  | swap x y l => simp only [sumF]; omega
  | trans _ _ h1 h2 => exact h1.trans h2
theorem sumF_congr {α : Type} {g h : α → Int} : ∀ {xs : List α}, (∀ x ∈ xs, g x = h x) → sumF g xs = sumF h xs
  | [], _ => rfl
  | x :: xs, hx => by rw [sumF, sumF, hx x List.mem_cons_self, sumF_congr fun y hy => hx y (List.mem_cons_of_mem _ hy)]
theorem sumF_map {α β : Type} {g : β → Int} {m : α → β} : ∀ {xs : List α}, sumF g (xs.map m) = sumF (fun x => g (m x)) xs
  | [] => rfl
  | x :: xs => by rw [List.map_cons, sumF, sumF, sumF_map]
theorem sumF_flat {α : Type} {g : α → Int} : ∀ {B : List (List α)}, sumF g B.flatten = sumF (sumF g) B
  | [] => rfl
  | b :: B => by rw [List.flatten_cons, sumF_app, sumF, sumF_flat]
theorem sumF_le {α : Type} {g h : α → Int} : ∀ {xs : List α}, (∀ x ∈ xs, g x ≤ h x) → sumF g xs ≤ sumF h xs
  | [], _ => Int.le_refl _
  | x :: xs, hx => by
    have h1 := hx x List.mem_cons_self
    have h2 := sumF_le (xs := xs) fun y hy => hx y (List.mem_cons_of_mem _ hy)
    simp only [sumF]
    omega
theorem sumF_eq {α : Type} {g h : α → Int} : ∀ {xs : List α}, (∀ x ∈ xs, g x ≤ h x) → sumF h xs ≤ sumF g xs → ∀ x ∈ xs, g x = h x
  | [], _, _, x, hx => by cases hx
  | x :: xs, hx, hs, y, hy => by
    have h1 := hx x List.mem_cons_self
    have h2 := sumF_le (xs := xs) fun y hy => hx y (List.mem_cons_of_mem _ hy)
    simp only [sumF] at hs
    rcases List.mem_cons.1 hy with rfl | hy
    · omega
    · exact sumF_eq (xs := xs) (fun y hy => hx y (List.mem_cons_of_mem _ hy)) (by omega) y hy
theorem sumF_take {g : Int → Int} {xs : List Int} {k : Nat} (h : k < xs.length) : sumF g (xs.take (k + 1)) = sumF g (xs.take k) + g (ix xs k) := by
  rw [List.take_succ_eq_append_getElem h, sumF_app, ix_elem h]
  simp [sumF]
/-! The cost of a block. -/
def bcK (t : Tab) (f : Flt) (xs : List Dly) (p : Int) (b c : List Int) (x : Int) : Int := (if x ∈ c then p else ix (delR t f [keptL b c] xs) (fndT t x)) * ((trLin t (fndT t x)).S.length : Int)
def bcS (t : Tab) (f : Flt) (xs : List Dly) (p : Int) (b c : List Int) : Int := sumF (bcK t f xs p b c) b
theorem kept_congr {b c d : List Int} (h : ∀ x ∈ b, (x ∈ c ↔ x ∈ d)) : keptL b c = keptL b d := by
  rw [keptL_eq, keptL_eq]
  exact List.filter_congr fun x hx => by rw [decide_eq_decide.2 (h x hx)]
theorem bcS_congr {t : Tab} {f : Flt} {xs : List Dly} {p : Int} {b c d : List Int} (h : ∀ x ∈ b, (x ∈ c ↔ x ∈ d)) : bcS t f xs p b c = bcS t f xs p b d := by
  unfold bcS
  refine sumF_congr fun x hx => ?_
  unfold bcK
  rw [kept_congr h]
  by_cases hc : x ∈ c
  · rw [if_pos hc, if_pos ((h x hx).1 hc)]
  · rw [if_neg hc, if_neg fun h9 => hc ((h x hx).2 h9)]
theorem coS_sum {t : Tab} {r : List Int} {p : Int} : ∀ {n : Nat}, coS t r p n = sumF (fun j : Nat => coK t r p j) (List.range n)
  | 0 => rfl
  | n + 1 => by
    rw [coS, coS_sum, List.range_succ, sumF_app]
    simp [sumF]
theorem cost_blocks {t : Tab} {f : Flt} {B : List (List Int)} {xs : List Dly} {p : Int} {c : List Int} (h : BlV t f B) (hm : MinOk xs) (hP : Prt t B) : coS t (cdL t f B xs c) p t.T.length = sumF (fun b => bcS t f xs p b c) B := by
  have e1 : coS t (cdL t f B xs c) p t.T.length = sumF (fun j : Int => coK t (cdL t f B xs c) p j.toNat) ((List.range t.T.length).map fun j : Nat => (j : Int)) := by
    rw [coS_sum, sumF_map]
    rfl
  rw [e1, ← sumF_perm hP.pm, sumF_map, sumF_flat]
  refine sumF_congr fun b hb => ?_
  unfold bcS
  refine sumF_congr fun x hx => ?_
  have h0 := hP.ids x (List.mem_flatten.2 ⟨b, hb, hx⟩)
  have hbd := fndT_bd (t := t) (id := x)
  have hval := fndT_val h0
  obtain ⟨i, hi, ei⟩ := ix_ex hb
  have hr : ix (cdL t f B xs c) (fndT t x) = if x ∈ c then -1 else ix (delR t f (keptA B c) xs) (fndT t x) := by
    have h9 := offL_at (n := t.T.length) (o := delR t f (keptA B c) xs) (p := fun j => decide ((ix t.T j).I ∈ c)) (j := (fndT t x).toNat) (by omega)
    rw [show (((fndT t x).toNat : Nat) : Int) = fndT t x by omega, hval] at h9
    rw [cdL, chR, h9]
    simp only [decide_eq_true_eq]
  unfold coK bcK
  rw [show (((fndT t x).toNat : Nat) : Int) = fndT t x by omega, hr]
  by_cases hc : x ∈ c
  · rw [if_pos hc, if_pos hc, if_pos (by decide)]
  · have hdb := (BkK.kept h hm c).all.2 (fndT t x) h0 hbd.2
    rw [if_neg hc, if_neg hc, if_neg (by omega)]
    congr 1
    have hka : ix (keptA B c) (i : Int) = keptL b c := by rw [keptA_at (by omega), ei]
    have hxk : x ∈ keptL b c := by rw [keptL_eq, List.mem_filter]; exact ⟨hx, by simp [hc]⟩
    obtain ⟨j, hj, ej⟩ := ix_ex hxk
    have h9 := delR_row (t := t) (f := f) (B := keptA B c) (xs := xs) (i := i) (j := j) (by rw [keptA_len]; omega) (by rw [hka]; omega) (keptA_ids h.ids) (fun i' k' hi' hk' hne e => ?_)
    · rw [hka, ej] at h9
      exact h9
    · rw [keptA_len] at hi'
      rw [hka, ej] at e
      rw [keptA_at hi'] at hk' e
      have h10 := (keptL_mem (mem_ix (xs := keptL (ix B i') c) (by omega) hk')).1
      rw [e] at h10
      exact hne (hP.one hi' (by omega) h10 (by rw [ei]; exact hx))
end Go.Proofs.YtanlaggnhocjhaaGreat
namespace Go.Proofs.YtanlaggnhocjhaaGreat
set_option linter.unusedSimpArgs false
set_option linter.unusedVariables false
open Go.RowKit
theorem asc_eq {a b : List Int} (ha : a.Pairwise (· < ·)) (hb : b.Pairwise (· < ·)) (h : ∀ x, x ∈ a ↔ x ∈ b) : a = b := by
  have hn : ∀ {l : List Int}, l.Pairwise (· < ·) → l.Nodup := fun h => h.imp fun h => by omega
  exact List.Perm.eq_of_pairwise (le := fun x y : Int => x < y) (fun a b _ _ h1 h2 => by omega) ha hb ((List.perm_ext_iff_of_nodup (hn ha) (hn hb)).2 h)
/-! Subsets of the trips, in the order of the timetable. -/
def cT (t : Tab) (s : Nat) : Nat → List Int
  | 0 => []
  | k + 1 => if bt s k then cT t s k ++ [(ix t.T (k : Int)).I] else cT t s k
theorem cT_mem {t : Tab} {s : Nat} {x : Int} : ∀ {k : Nat}, x ∈ cT t s k ↔ ∃ j : Nat, j < k ∧ bt s j = true ∧ (ix t.T (j : Int)).I = x
  | 0 => by simp [cT]
  | k + 1 => by
    unfold cT
    cases e : bt s k
    · simp only [Bool.false_eq_true, if_false]
      rw [cT_mem]
      constructor
      · rintro ⟨j, h1, h2, h3⟩
        exact ⟨j, by omega, h2, h3⟩
      · rintro ⟨j, h1, h2, h3⟩
        refine ⟨j, ?_, h2, h3⟩
        by_cases e2 : j = k
        · rw [e2, e] at h2
          simp at h2
        · omega
    · simp only [if_true, List.mem_append, List.mem_singleton]
      rw [cT_mem]
      constructor
      · rintro (⟨j, h1, h2, h3⟩ | h)
        · exact ⟨j, by omega, h2, h3⟩
        · exact ⟨k, by omega, e, h.symm⟩
      · rintro ⟨j, h1, h2, h3⟩
        by_cases e2 : j = k
        · exact .inr (by rw [← h3, e2])
        · exact .inl ⟨j, by omega, h2, h3⟩
theorem cT_len {t : Tab} {s : Nat} : ∀ {k : Nat}, (cT t s k).length ≤ k
  | 0 => Nat.le_refl _
  | k + 1 => by
    have := cT_len (t := t) (s := s) (k := k)
    unfold cT
    split
    · rw [List.length_append, List.length_singleton]
      omega
    · omega
theorem cT_asc {t : Tab} (hv : tabB t = true) {s : Nat} : ∀ {k : Nat}, k ≤ t.T.length → (cT t s k).Pairwise (· < ·)
  | 0, _ => .nil
  | k + 1, hk => by
    have ih := cT_asc hv (s := s) (k := k) (by omega)
    unfold cT
    split
    · refine List.pairwise_append.2 ⟨ih, List.pairwise_singleton _ _, fun a ha b hb => ?_⟩
      obtain ⟨j, h1, _, h3⟩ := cT_mem.1 ha
      rw [List.mem_singleton.1 hb, ← h3]
      have h4 := tab_mono hv (i := j) (d := k - j - 1) (by omega)
      rwa [show j + (k - j - 1) + 1 = k by omega] at h4
    · exact ih
theorem cT_ids {t : Tab} (hv : tabB t = true) {s k : Nat} (hk : k ≤ t.T.length) {x : Int} (hx : x ∈ cT t s k) : 0 ≤ fndT t x := by
  obtain ⟨j, h1, _, h3⟩ := cT_mem.1 hx
  exact (firstI_le (q := fun j : Nat => decide ((ix t.T (j : Int)).I = x)) (i := j) (decide_eq_true h3) (n := t.T.length) (by omega)).1
/-! Subsets of a block. -/
def cB (b : List Int) (m : Nat) : Nat → List Int
  | 0 => []
  | k + 1 => if bt m k then putI (cB b m k) (ix b (k : Int)) else cB b m k
theorem cB_spec {b : List Int} (hb : b.Nodup) {m : Nat} : ∀ {k : Nat}, k ≤ b.length → (cB b m k).Pairwise (· < ·) ∧ ∀ x, x ∈ cB b m k ↔ ∃ j : Nat, j < k ∧ bt m j = true ∧ ix b (j : Int) = x
  | 0, _ => ⟨.nil, fun x => by simp [cB]⟩
  | k + 1, hk => by
    obtain ⟨h1, h2⟩ := cB_spec hb (m := m) (k := k) (by omega)
    have hnm : ix b (k : Int) ∉ cB b m k := fun h => by
      obtain ⟨j, h3, _, h5⟩ := (h2 _).1 h
      rw [ix_elem (by omega), ix_elem (by omega)] at h5
      have := List.pairwise_iff_getElem.1 hb j k (by omega) (by omega) h3
      exact this h5
    unfold cB
    cases e : bt m k
    · simp only [Bool.false_eq_true, if_false]
      refine ⟨h1, fun x => ?_⟩
      rw [h2]
      constructor
      · rintro ⟨j, h1, h2, h3⟩
        exact ⟨j, by omega, h2, h3⟩
      · rintro ⟨j, h1, h2, h3⟩
        refine ⟨j, ?_, h2, h3⟩
        by_cases e2 : j = k
        · rw [e2, e] at h2
          simp at h2
        · omega
    · simp only [if_true]
      rw [putI_new hnm]
      refine ⟨insAt_asc h1 hnm, fun x => ?_⟩
      rw [insAt_perm.mem_iff, List.mem_cons, h2]
      constructor
      · rintro (h | ⟨j, h1, h2, h3⟩)
        · exact ⟨k, by omega, e, h.symm⟩
        · exact ⟨j, by omega, h2, h3⟩
      · rintro ⟨j, h1, h2, h3⟩
        by_cases e2 : j = k
        · exact .inl (by rw [← h3, e2])
        · exact .inr ⟨j, by omega, h2, h3⟩
theorem cB_sub {b : List Int} (hb : b.Nodup) {m : Nat} {x : Int} (hx : x ∈ cB b m b.length) : x ∈ b := by
  obtain ⟨j, h1, _, h3⟩ := ((cB_spec hb (Nat.le_refl _)).2 x).1 hx
  rw [← h3]
  exact mem_ix (by omega) (by omega)
theorem cB_len {b : List Int} {m : Nat} : ∀ {k : Nat}, (cB b m k).length ≤ k
  | 0 => Nat.le_refl _
  | k + 1 => by
    have := cB_len (b := b) (m := m) (k := k)
    unfold cB
    split
    · unfold putI
      split
      · omega
      · rw [insAt_ln]
        omega
    · omega
/-- Any part of a block is one of them. -/
theorem cB_any {b : List Int} (hb : b.Nodup) {e : List Int} (he : e.Pairwise (· < ·)) (hs : ∀ x ∈ e, x ∈ b) : ∃ m, m < 2 ^ b.length ∧ cB b m b.length = e := by
  obtain ⟨m, h1, h2⟩ := bt_surj b.length fun j => decide (ix b (j : Int) ∈ e)
  obtain ⟨h3, h4⟩ := cB_spec hb (m := m) (Nat.le_refl b.length)
  refine ⟨m, h1, asc_eq h3 he fun x => ?_⟩
  rw [h4]
  constructor
  · rintro ⟨j, h5, h6, h7⟩
    rw [h2 j h5, decide_eq_true_eq, h7] at h6
    exact h6
  · intro hx
    obtain ⟨j, hj, e⟩ := ix_ex (hs x hx)
    exact ⟨j, hj, by rw [h2 j hj, decide_eq_true_eq, e]; exact hx, e⟩
theorem cT_any {t : Tab} (hv : tabB t = true) {e : List Int} (he : e.Pairwise (· < ·)) (hs : ∀ x ∈ e, 0 ≤ fndT t x) : ∃ s, s < 2 ^ t.T.length ∧ cT t s t.T.length = e := by
  obtain ⟨s, h1, h2⟩ := bt_surj t.T.length fun j => decide ((ix t.T (j : Int)).I ∈ e)
  refine ⟨s, h1, asc_eq (cT_asc hv (Nat.le_refl _)) he fun x => ?_⟩
  rw [cT_mem]
  constructor
  · rintro ⟨j, h5, h6, h7⟩
    rw [h2 j h5, decide_eq_true_eq, h7] at h6
    exact h6
  · intro hx
    have h0 := hs x hx
    have hb := fndT_bd (t := t) (id := x)
    have hval := fndT_val h0
    refine ⟨(fndT t x).toNat, by omega, ?_, ?_⟩
    · rw [h2 _ (by omega), decide_eq_true_eq, show (((fndT t x).toNat : Nat) : Int) = fndT t x by omega, hval]
      exact hx
    · rw [show (((fndT t x).toNat : Nat) : Int) = fndT t x by omega]
      exact hval
/-! The best of a block. -/
def okB (t : Tab) (f : Flt) (b : List Int) (m : Nat) : Bool := posL t f (keptL b (cB b m b.length))
def coB (t : Tab) (f : Flt) (xs : List Dly) (p : Int) (b : List Int) (m : Nat) : Int := bcS t f xs p b (cB b m b.length)
def seB (t : Tab) (f : Flt) (xs : List Dly) (p : Int) (b : List Int) (k : Nat) : Option Nat := sel (okB t f b) (coB t f xs p b) (fun m => cB b m b.length) k
def lB (t : Tab) (f : Flt) (xs : List Dly) (p : Int) (b : List Int) (k : Nat) : List Int := match seB t f xs p b k with | none => [] | some m => cB b m b.length
def kB (t : Tab) (f : Flt) (xs : List Dly) (p : Int) (b : List Int) (k : Nat) : Int := match seB t f xs p b k with | none => -1 | some m => coB t f xs p b m
def dB (t : Tab) (f : Flt) (xs : List Dly) (p : Int) (b : List Int) : List Int := lB t f xs p b (2 ^ b.length)
theorem posL_nil {t : Tab} {f : Flt} : posL t f [] = true := rfl
structure Bst (t : Tab) (f : Flt) (xs : List Dly) (p : Int) (b : List Int) : Prop where
  asc : (dB t f xs p b).Pairwise (· < ·)
  sub : ∀ x ∈ dB t f xs p b, x ∈ b
  pos : posL t f (keptL b (dB t f xs p b)) = true
  cost : kB t f xs p b (2 ^ b.length) = bcS t f xs p b (dB t f xs p b)
  min : ∀ e : List Int, e.Pairwise (· < ·) → (∀ x ∈ e, x ∈ b) → posL t f (keptL b e) = true → kyL (bcS t f xs p b e) e (bcS t f xs p b (dB t f xs p b)) (dB t f xs p b) = false
theorem keptL_all {b c : List Int} (h : ∀ x ∈ b, x ∈ c) : keptL b c = [] := by
  rw [keptL_eq, List.filter_eq_nil_iff]
  exact fun x hx => by simp [h x hx]
theorem Bst.of {t : Tab} {f : Flt} {xs : List Dly} {p : Int} {b : List Int} (hb : b.Nodup) : Bst t f xs p b := by
  obtain ⟨m0, h1, h2⟩ := bt_surj b.length fun _ => true
  have hall : okB t f b m0 = true := by
    unfold okB
    rw [keptL_all fun x hx => ?_]
    · exact posL_nil
    · obtain ⟨j, hj, e⟩ := ix_ex hx
      exact ((cB_spec hb (Nat.le_refl _)).2 x).2 ⟨j, hj, h2 j hj, e⟩
  obtain ⟨r, hr⟩ := sel_ex (c := coB t f xs p b) (a := fun m => cB b m b.length) h1 hall
  obtain ⟨h3, h4, h5⟩ := sel_some hr
  have e1 : dB t f xs p b = cB b r b.length := by
    unfold dB lB seB
    rw [hr]
  refine ⟨by rw [e1]; exact (cB_spec hb (Nat.le_refl _)).1, by rw [e1]; exact fun x hx => cB_sub hb hx, by rw [e1]; exact h4, ?_, fun e he hs hp => ?_⟩
  · rw [e1]
    unfold kB seB
    rw [hr]
    rfl
  · obtain ⟨m, h6, h7⟩ := cB_any hb he hs
    rw [e1, ← h7]
    exact h5 m h6 (by unfold okB; rw [h7]; exact hp)
/-! Union. -/
def uniL (a b : List Int) : Nat → List Int
  | 0 => a
  | k + 1 => putI (uniL a b k) (ix b (k : Int))
theorem uniL_spec {a b : List Int} (ha : a.Pairwise (· < ·)) (hb : b.Nodup) (hd : ∀ x ∈ b, x ∉ a) : ∀ {k : Nat}, k ≤ b.length → (uniL a b k).Pairwise (· < ·) ∧ ∀ x, x ∈ uniL a b k ↔ x ∈ a ∨ ∃ j : Nat, j < k ∧ ix b (j : Int) = x
  | 0, _ => ⟨ha, fun x => by simp [uniL]⟩
  | k + 1, hk => by
    obtain ⟨h1, h2⟩ := uniL_spec ha hb hd (k := k) (by omega)
    have hnm : ix b (k : Int) ∉ uniL a b k := fun h => by
      rcases (h2 _).1 h with h3 | ⟨j, h3, h5⟩
      · exact hd _ (mem_ix (by omega) (by omega)) h3
      · rw [ix_elem (by omega), ix_elem (by omega)] at h5
        exact List.pairwise_iff_getElem.1 hb j k (by omega) (by omega) h3 h5
    unfold uniL
    rw [putI_new hnm]
    refine ⟨insAt_asc h1 hnm, fun x => ?_⟩
    rw [insAt_perm.mem_iff, List.mem_cons, h2]
    constructor
    · rintro (h | h | ⟨j, h3, h4⟩)
      · exact .inr ⟨k, by omega, h.symm⟩
      · exact .inl h
      · exact .inr ⟨j, by omega, h4⟩
    · rintro (h | ⟨j, h3, h4⟩)
      · exact .inr (.inl h)
      · by_cases e : j = k
        · exact .inl (by rw [← h4, e])
        · exact .inr (.inr ⟨j, by omega, h4⟩)
def unS (t : Tab) (f : Flt) (B : List (List Int)) (xs : List Dly) (p : Int) : Nat → List Int
  | 0 => []
  | i + 1 => uniL (unS t f B xs p i) (dB t f xs p (ix B (i : Int))) (dB t f xs p (ix B (i : Int))).length
def smS (t : Tab) (f : Flt) (B : List (List Int)) (xs : List Dly) (p : Int) : Nat → Int
  | 0 => 0
  | i + 1 => smS t f B xs p i + kB t f xs p (ix B (i : Int)) (2 ^ (ix B (i : Int)).length)
theorem asc_nodup {l : List Int} (h : l.Pairwise (· < ·)) : l.Nodup := h.imp fun h => by omega
theorem unS_spec {t : Tab} {f : Flt} {B : List (List Int)} {xs : List Dly} {p : Int} (hP : Prt t B) : ∀ {i : Nat}, i ≤ B.length → (unS t f B xs p i).Pairwise (· < ·) ∧ ∀ x, x ∈ unS t f B xs p i ↔ ∃ j : Nat, j < i ∧ x ∈ dB t f xs p (ix B (j : Int))
  | 0, _ => ⟨.nil, fun x => by simp [unS]⟩
  | i + 1, hi => by
    obtain ⟨h1, h2⟩ := unS_spec hP (xs := xs) (f := f) (p := p) (i := i) (by omega)
    have hS := fun (j : Nat) (hj : j < B.length) => Bst.of (t := t) (f := f) (xs := xs) (p := p) (hP.rnd (b := ix B (j : Int)) (mem_ix (by omega) (by omega)))
    have h3 := uniL_spec h1 (asc_nodup (hS i (by omega)).asc) (fun x hx h4 => by
      obtain ⟨j, h5, h6⟩ := (h2 x).1 h4
      have := hP.one (i := i) (j := j) (by omega) (by omega) ((hS i (by omega)).sub x hx) ((hS j (by omega)).sub x h6)
      omega) (Nat.le_refl _)
    refine ⟨h3.1, fun x => ?_⟩
    have h4 := h3.2 x
    unfold unS
    rw [h4, h2]
    constructor
    · rintro (⟨j, h5, h6⟩ | ⟨j, h5, h6⟩)
      · exact ⟨j, by omega, h6⟩
      · exact ⟨i, by omega, by rw [← h6]; exact mem_ix (by omega) (by omega)⟩
    · rintro ⟨j, h5, h6⟩
      by_cases e : j = i
      · subst e
        obtain ⟨k, hk, ek⟩ := ix_ex h6
        exact .inr ⟨k, hk, ek⟩
      · exact .inl ⟨j, by omega, h6⟩
theorem smS_sum {t : Tab} {f : Flt} {B : List (List Int)} {xs : List Dly} {p : Int} : ∀ {i : Nat}, i ≤ B.length → smS t f B xs p i = sumF (fun b => kB t f xs p b (2 ^ b.length)) (B.take i)
  | 0, _ => by simp [smS, sumF]
  | i + 1, hi => by
    rw [smS, smS_sum (by omega), List.take_succ_eq_append_getElem (by omega), sumF_app, ix_elem (by omega)]
    simp [sumF]
/-! The best of all. -/
def okT (t : Tab) (f : Flt) (B : List (List Int)) (s : Nat) : Bool := posB t f B (cT t s t.T.length)
def coT (t : Tab) (f : Flt) (B : List (List Int)) (xs : List Dly) (p : Int) (s : Nat) : Int := coS t (cdL t f B xs (cT t s t.T.length)) p t.T.length
def seT (t : Tab) (f : Flt) (B : List (List Int)) (xs : List Dly) (p : Int) (k : Nat) : Option Nat := sel (okT t f B) (coT t f B xs p) (fun s => cT t s t.T.length) k
def lT (t : Tab) (f : Flt) (B : List (List Int)) (xs : List Dly) (p : Int) (k : Nat) : List Int := match seT t f B xs p k with | none => [] | some s => cT t s t.T.length
def kT (t : Tab) (f : Flt) (B : List (List Int)) (xs : List Dly) (p : Int) (k : Nat) : Int := match seT t f B xs p k with | none => 1073741824 | some s => coT t f B xs p s
theorem posB_t {t : Tab} {f : Flt} {B : List (List Int)} {c : List Int} : posB t f B c = true ↔ ∀ b ∈ B, posL t f (keptL b c) = true := by
  unfold posB
  rw [allN_t]
  constructor
  · intro h b hb
    obtain ⟨i, hi, e⟩ := ix_ex hb
    have := h i hi
    rwa [e] at this
  · exact fun h i hi => h _ (mem_ix (by omega) (by omega))
theorem len_parts {t : Tab} {B : List (List Int)} (hP : Prt t B) {c : List Int} (hc : c.Nodup) (hs : ∀ x ∈ c, x ∈ B.flatten) : (c.length : Int) = sumF (fun b : List Int => ((c.filter fun x => decide (x ∈ b)).length : Int)) B := by
  have hpm : (B.map fun b => c.filter fun x => decide (x ∈ b)).flatten.Perm c := by
    refine (List.perm_ext_iff_of_nodup ?_ hc).2 fun x => ?_
    · unfold List.Nodup
      rw [List.pairwise_flatten]
      refine ⟨fun l hl => ?_, ?_⟩
      · obtain ⟨b, _, rfl⟩ := List.mem_map.1 hl
        exact hc.filter _
      · rw [List.pairwise_map]
        refine ((List.pairwise_flatten.1 hP.nd).2).imp fun {b b'} h x hx y hy => ?_
        have h1 := (List.mem_filter.1 hx).2
        have h2 := (List.mem_filter.1 hy).2
        exact h x (of_decide_eq_true h1) y (of_decide_eq_true h2)
    · rw [List.mem_flatten]
      constructor
      · rintro ⟨l, hl, hx⟩
        obtain ⟨b, _, rfl⟩ := List.mem_map.1 hl
        exact (List.mem_filter.1 hx).1
      · intro hx
        obtain ⟨b, hb, hxb⟩ := List.mem_flatten.1 (hs x hx)
        exact ⟨_, List.mem_map_of_mem hb, List.mem_filter.2 ⟨hx, decide_eq_true hxb⟩⟩
  have h1 : ∀ (L : List (List Int)), (L.flatten.length : Int) = sumF (fun l : List Int => (l.length : Int)) L := fun L => by
    induction L with
    | nil => rfl
    | cons l L ih => rw [List.flatten_cons, List.length_append, sumF, ← ih]; omega
  rw [← hpm.length_eq, h1, sumF_map]
theorem bst_all {t : Tab} {f : Flt} {B : List (List Int)} {xs : List Dly} {p : Int} (h : BlV t f B) (hm : MinOk xs) (hP : Prt t B) : lT t f B xs p (2 ^ t.T.length) = unS t f B xs p B.length ∧ kT t f B xs p (2 ^ t.T.length) = smS t f B xs p B.length := by
  have hS : ∀ b ∈ B, Bst t f xs p b := fun b hb => Bst.of (hP.rnd hb)
  obtain ⟨hU1, hU2⟩ := unS_spec (f := f) (xs := xs) (p := p) hP (Nat.le_refl B.length)
  have hUm : ∀ b ∈ B, ∀ x ∈ b, (x ∈ unS t f B xs p B.length ↔ x ∈ dB t f xs p b) := fun b hb x hx => by
    obtain ⟨i, hi, ei⟩ := ix_ex hb
    rw [hU2]
    constructor
    · rintro ⟨j, h1, h2⟩
      have := hP.one (i := i) (j := j) (x := x) (by omega) (by omega) (by rw [ei]; exact hx) ((hS _ (mem_ix (by omega) (by omega))).sub x h2)
      rw [← this, ei] at h2
      exact h2
    · exact fun h1 => ⟨i, hi, by rw [ei]; exact h1⟩
  have hUs : ∀ x ∈ unS t f B xs p B.length, x ∈ B.flatten := fun x hx => by
    obtain ⟨j, h1, h2⟩ := (hU2 x).1 hx
    exact List.mem_flatten.2 ⟨_, mem_ix (by omega) (by omega), (hS _ (mem_ix (by omega) (by omega))).sub x h2⟩
  obtain ⟨u, hu1, hu2⟩ := cT_any h.hv hU1 fun x hx => hP.ids x (hUs x hx)
  have hUp : okT t f B u = true := by
    unfold okT
    rw [hu2, posB_t]
    intro b hb
    rw [kept_congr (hUm b hb)]
    exact (hS b hb).pos
  have hUc : coT t f B xs p u = sumF (fun b => bcS t f xs p b (dB t f xs p b)) B := by
    unfold coT
    rw [hu2, cost_blocks h hm hP]
    exact sumF_congr fun b hb => bcS_congr (hUm b hb)
  obtain ⟨r, hr⟩ := sel_ex (c := coT t f B xs p) (a := fun s => cT t s t.T.length) hu1 hUp
  obtain ⟨hr1, hr2, hr3⟩ := sel_some hr
  have e1 : lT t f B xs p (2 ^ t.T.length) = cT t r t.T.length := by
    unfold lT seT
    rw [hr]
  have e2 : kT t f B xs p (2 ^ t.T.length) = coT t f B xs p r := by
    unfold kT seT
    rw [hr]
  have hcA := cT_asc h.hv (s := r) (Nat.le_refl t.T.length)
  have hcI : ∀ x ∈ cT t r t.T.length, x ∈ B.flatten := fun x hx => by
    obtain ⟨j, h1, _, h3⟩ := cT_mem.1 hx
    rw [← h3]
    exact hP.cov j (by omega)
  have hcC : coT t f B xs p r = sumF (fun b => bcS t f xs p b (cT t r t.T.length)) B := by
    unfold coT
    exact cost_blocks h hm hP
  -- the parts of it
  have hEm : ∀ b : List Int, ∀ x ∈ b, (x ∈ cT t r t.T.length ↔ x ∈ (cT t r t.T.length).filter fun x => decide (x ∈ b)) := fun b x hx => by
    rw [List.mem_filter]
    exact ⟨fun h9 => ⟨h9, decide_eq_true hx⟩, fun h9 => h9.1⟩
  have hEa : ∀ b : List Int, ((cT t r t.T.length).filter fun x => decide (x ∈ b)).Pairwise (· < ·) := fun b => hcA.filter _
  have hmin : ∀ b ∈ B, kyL (bcS t f xs p b (cT t r t.T.length)) ((cT t r t.T.length).filter fun x => decide (x ∈ b)) (bcS t f xs p b (dB t f xs p b)) (dB t f xs p b) = false := fun b hb => by
    have h1 := (hS b hb).min _ (hEa b) (fun x hx => of_decide_eq_true (List.mem_filter.1 hx).2) (by
      rw [← kept_congr (hEm b)]
      exact posB_t.1 hr2 b hb)
    rwa [← bcS_congr (hEm b)] at h1
  have hur := hr3 u hu1 hUp
  rw [hu2] at hur
  simp only [kyL_f] at hmin hur
  have hcost : ∀ b ∈ B, bcS t f xs p b (dB t f xs p b) = bcS t f xs p b (cT t r t.T.length) := sumF_eq (g := fun b => bcS t f xs p b (dB t f xs p b)) (h := fun b => bcS t f xs p b (cT t r t.T.length)) (fun b hb => by have := hmin b hb; omega) (by rw [← hUc, ← hcC]; omega)
  have hcc : coT t f B xs p u = coT t f B xs p r := by
    rw [hUc, hcC]
    exact sumF_congr hcost
  have hUf : ∀ b ∈ B, ((unS t f B xs p B.length).filter fun x => decide (x ∈ b)) = dB t f xs p b := fun b hb => asc_eq (hU1.filter _) (hS b hb).asc fun x => by
    rw [List.mem_filter, decide_eq_true_eq]
    exact ⟨fun h9 => (hUm b hb x h9.2).1 h9.1, fun h9 => ⟨(hUm b hb x ((hS b hb).sub x h9)).2 h9, (hS b hb).sub x h9⟩⟩
  have hl1 := len_parts hP (asc_nodup hU1) hUs
  have hl2 := len_parts hP (asc_nodup hcA) hcI
  have hl3 : sumF (fun b : List Int => (((unS t f B xs p B.length).filter fun x => decide (x ∈ b)).length : Int)) B = sumF (fun b => ((dB t f xs p b).length : Int)) B := sumF_congr fun b hb => by rw [hUf b hb]
  have hlen : ∀ b ∈ B, ((dB t f xs p b).length : Int) = (((cT t r t.T.length).filter fun x => decide (x ∈ b)).length : Int) := sumF_eq (g := fun b => ((dB t f xs p b).length : Int)) (h := fun b : List Int => (((cT t r t.T.length).filter fun x => decide (x ∈ b)).length : Int)) (fun b hb => by have := hmin b hb; have := hcost b hb; omega) (by rw [← hl2, ← hl3, ← hl1]; omega)
  have hll : (unS t f B xs p B.length).length = (cT t r t.T.length).length := by
    have : sumF (fun b => ((dB t f xs p b).length : Int)) B = sumF (fun b : List Int => (((cT t r t.T.length).filter fun x => decide (x ∈ b)).length : Int)) B := sumF_congr hlen
    omega
  have hfin : cT t r t.T.length = unS t f B xs p B.length := by
    refine lexL_tri hll.symm ?_ ?_
    · cases e : lexL (cT t r t.T.length) (unS t f B xs p B.length)
      · rfl
      · exfalso
        obtain ⟨x, h1, h2, h3⟩ := lexL_has hll.symm hcA hU1 e
        obtain ⟨b, hb, hxb⟩ := List.mem_flatten.1 (hcI x h1)
        have h4 := lexL_of (a := (cT t r t.T.length).filter fun x => decide (x ∈ b)) (b := dB t f xs p b) (x := x) (by have := hlen b hb; omega) (hEa b) (hS b hb).asc ((hEm b x hxb).1 h1) (fun h9 => h2 ((hUm b hb x hxb).2 h9)) fun y hy => by
          constructor
          · intro h9
            have h10 := List.mem_filter.1 h9
            exact (hUm b hb y (of_decide_eq_true h10.2)).1 ((h3 y hy).1 h10.1)
          · intro h9
            have h10 := (hS b hb).sub y h9
            exact (hEm b y h10).1 ((h3 y hy).2 ((hUm b hb y h10).2 h9))
        have h5 := hmin b hb
        have h6 := hlen b hb
        have h7 := hcost b hb
        exact h5 (.inr ⟨h7.symm, .inr ⟨by omega, h4⟩⟩)
    · cases e : lexL (unS t f B xs p B.length) (cT t r t.T.length)
      · rfl
      · exact absurd (.inr ⟨hcc, .inr ⟨hll, e⟩⟩) hur
  refine ⟨by rw [e1, hfin], ?_⟩
  rw [e2, ← hcc, hUc, smS_sum (Nat.le_refl _), List.take_length]
  exact sumF_congr fun b hb => (hS b hb).cost.symm
end Go.Proofs.YtanlaggnhocjhaaGreat
