/- An amount divided in proportion: in plain terms; which places get one more. -/
import Derived.Test.YtmmemadlnjjdmaaIns
import Derived.Test.YtmmemadlnjjdmaaVals
namespace Go.Proofs.Ytmmemadlnjjdmaa
set_option linter.unusedSimpArgs false
set_option linter.unusedVariables false
open Go.RowKit Go.ChangeShapes Go.WideShapes Go.ChangeAt Go.Deep
def preI (xs : List Int) : Nat → Int
  | 0 => 0
  | k + 1 => preI xs k + ix xs k
def SumOk (xs : List Int) : Prop := ∀ k : Nat, k ≤ xs.length → -1000000 ≤ preI xs k ∧ preI xs k ≤ 1000000
theorem ct_total {e : Option TypeId} (xs : List Int) (hs : SumOk xs) : CT Try.prog 56 [.inr (uS e pI xs)] (.inl (.int .i64 (preI xs xs.length))) := by
  refine CT_len fun hlen => ?_
  refine CT_of Try.func56 rfl rfl rfl (fun w => ?_)
  have hC := upC_ext w
  try any_goals (first | (refine H_seq ?_; try refine H_reg ?_) | refine H_reg ?_)
  try any_goals (refine W_assign (d := 2) (sq_stepper hC) rfl rfl rfl ?_)
  try any_goals (first | (refine Sq_nil ?_; try refine G_then ?_) | refine G_then ?_)
  try any_goals (first | (refine H_seq ?_; try refine H_reg ?_) | refine H_reg ?_)
  try any_goals (refine W_assign (d := 3) (sq_stepper hC) rfl rfl rfl ?_)
  try any_goals (first | (refine Sq_nil ?_; try refine G_then ?_) | refine G_then ?_)
  try any_goals (refine H_seq ?_)
  try any_goals (first | (refine H_seq ?_; try refine H_reg ?_) | refine H_reg ?_)
  try any_goals (refine W_move (d := 6) (sq_stepper hC) rfl rfl rfl ?_)
  try any_goals (first | refine W_len (d := 7) (sq_stepper hC) (by kernel_rfl) rfl rfl rfl ?_ | refine W_lenStr (d := 7) (sq_stepper hC) (by kernel_rfl) rfl rfl rfl ?_)
  try any_goals (refine W_move (d := 8) (sq_stepper hC) rfl rfl rfl ?_)
  try any_goals (first | (refine Sq_nil ?_; try refine G_then ?_) | refine G_then ?_)
  try any_goals (refine H_block ?_)
  try any_goals ((refine H_loop (σ := Nat) (fun i => i ≤ xs.length) (fun i => [(3, .inl (.int .i64 (preI xs i))), (6, .inr (uS e pI xs)), (7, .inl (.int .i64 xs.length)), (8, .inl (.int .i64 i))]) (fun _ => Ext w) (fun i => xs.length - i) 0 (Nat.zero_le _) (fun a w h => h.sub (by repeat (first | exact trivial | refine ⟨⟨_, rfl, fun _ _ _ h => h⟩, ?_⟩ | refine ⟨⟨_, rfl, fun v w _ h => (show v = _ from h).trans (congrArg (Value.int .i64) (by first | omega | (dsimp only; omega)))⟩, ?_⟩)) fun _ h => h) (fun i hi => ?_); have h1 := hs i hi))
  try any_goals (first | (refine H_seq ?_; try refine H_reg ?_) | refine H_reg ?_)
  try any_goals (first | refine W_cmp (d := 9) (sq_stepper hC) rfl rfl rfl rfl rfl ?_ | refine W_strcmp (d := 9) (sq_stepper hC) rfl rfl rfl rfl rfl ?_)
  try any_goals (first | (refine Sq_nil ?_; try refine G_then ?_) | refine G_then ?_)
  try any_goals (refine H_seq ?_)
  try any_goals (first | refine H_condT rfl ?_ | refine H_condF rfl ?_ | (refine H_cond _ rfl (fun hq => ?_) (fun hq => ?_) <;> (try simp only [hqs, reduceCtorEq] at hq)))
  try any_goals (first | ((have h2 := hs (i + 1) (by omega); have h3 : preI xs (i + 1) = preI xs i + ix xs i := rfl)) | skip)
  try any_goals (refine H_skip ?_)
  try any_goals (refine H_exit ?_)
  repeat (any_goals (first | refine G_exit_then ?_ | refine G_exit_here ?_ | refine G_exit_far rfl ?_))
  try any_goals (refine G_then ?_)
  try any_goals (refine H_seq ?_)
  try any_goals (refine H_block ?_)
  try any_goals (first | (refine H_seq ?_; try refine H_reg ?_) | refine H_reg ?_)
  try any_goals (refine W_index (d := 10) (sq_stepper hC) (by kernel_rfl) rfl rfl rfl rfl (by first | omega | (dsimp only; omega)) ?_)
  try any_goals (refine W_loadI (d := 11) (sq_stepper hC) (by kernel_rfl) rfl rfl rfl ?_)
  try any_goals (refine W_assign (d := 5) (sq_stepper hC) rfl rfl rfl ?_)
  try any_goals (first | (refine Sq_nil ?_; try refine G_then ?_) | refine G_then ?_)
  try any_goals (refine H_reg ?_)
  try any_goals (refine W_move (d := 12) (sq_stepper hC) rfl rfl rfl ?_)
  try any_goals (refine W_move (d := 13) (sq_stepper hC) rfl rfl rfl ?_)
  try any_goals (refine W_ar (d := 14) (sq_stepper hC) rfl rfl rfl rfl rfl (by first | omega | (dsimp only; omega)) ?_)
  try any_goals (refine W_assign (d := 3) (sq_stepper hC) rfl rfl rfl ?_)
  try any_goals (refine Sq_nil ?_)
  repeat (any_goals (first | refine G_exit_then ?_ | refine G_exit_here ?_ | refine G_exit_far rfl ?_ | refine G_normal_block ?_))
  try any_goals (refine G_then ?_)
  try any_goals (refine H_reg ?_)
  try any_goals (refine W_ar (d := 15) (sq_stepper hC) rfl rfl rfl rfl rfl (by first | omega | (dsimp only; omega)) ?_)
  try any_goals (refine W_move (d := 8) (sq_stepper hC) rfl rfl rfl ?_)
  try any_goals (refine Sq_nil ?_)
  try any_goals (refine G_again (i + 1) (by omega) (by omega) (by repeat (first | exact trivial | refine ⟨⟨_, rfl, fun _ _ _ h => h⟩, ?_⟩ | refine ⟨⟨_, rfl, fun v w _ h => (show v = _ from h).trans (congrArg (Value.int .i64) (by first | omega | (dsimp only; omega)))⟩, ?_⟩)) (fun _ h => h))
  repeat (any_goals (first | refine G_exit_then ?_ | refine G_exit_here ?_ | refine G_exit_far rfl ?_ | refine G_normal_block ?_))
  try any_goals (refine G_then ?_)
  try any_goals (first | (refine H_seq ?_; try refine H_reg ?_) | refine H_reg ?_)
  try any_goals (refine W_move (d := 16) (sq_stepper hC) rfl rfl rfl ?_)
  try any_goals (refine W_assign (d := 2) (sq_stepper hC) rfl rfl rfl ?_)
  try any_goals (first | (refine Sq_nil ?_; try refine G_then ?_) | refine G_then ?_)
  try any_goals (refine H_ret ?_)
  repeat (any_goals (first | refine G_ret_then ?_ | refine G_ret_block ?_))
  all_goals first
    | exact R1v rfl (fun _ h => h) rfl (by rw [show i = xs.length by omega])
    | trace_state
theorem ix_elem {α : Type} [Inhabited α] {xs : List α} {j : Nat} (hj : j < xs.length) : ix xs (j : Int) = xs[j] := by simp [ix, hj]
theorem ix_setNe {xs : List Int} {a b z : Int} (ha : 0 ≤ a) (hb : 0 ≤ b) (h : a ≠ b) : ix (xs.set a.toNat z) b = ix xs b := by
  unfold ix
  rw [List.getD_eq_getElem?_getD, List.getD_eq_getElem?_getD, List.getElem?_set_ne (by omega)]
theorem insPos_ge {c : Nat → Bool} : ∀ {n j : Nat}, insPos c n ≤ j → j < n → c j = true
  | 0, _, _, h => by omega
  | n + 1, j, h, hj => by
    rw [insPos] at h
    split at h
    · rename_i hc
      rcases Nat.lt_or_ge j n with h1 | h1
      · exact insPos_ge h h1
      · obtain rfl : j = n := by omega
        exact hc
    · omega
theorem insPos_no' {c : Nat → Bool} : ∀ {n k : Nat}, insPos c n = k → 0 < k → c (k - 1) = false
  | 0, k, h, h0 => by rw [insPos] at h; omega
  | n + 1, k, h, h0 => by
    rw [insPos] at h
    split at h
    · exact insPos_no' h h0
    · rename_i hc
      subst h
      simpa using hc
theorem insAt_perm {α : Type} {p : List α} {k : Nat} {x : α} : (insAt p k x).Perm (x :: p) := by
  unfold insAt
  have := (List.perm_middle (a := x) (l₁ := p.take k) (l₂ := p.drop k))
  rwa [List.take_append_drop] at this
theorem isort_snoc' {α : Type} [Inhabited α] {lt : α → α → Bool} {xs : List α} {x : α} : isortL lt (xs ++ [x]) = insR lt (isortL lt xs) x := by
  rw [isortL, List.foldl_append]
  rfl
def bef (r : Int → Int) (a b : Int) : Prop := r b < r a ∨ (r a = r b ∧ a < b)
def idxL (n : Nat) : List Int := (List.range n).map fun i : Nat => (i : Int)
theorem idxL_len {n : Nat} : (idxL n).length = n := by simp [idxL]
theorem idxL_succ {n : Nat} : idxL (n + 1) = idxL n ++ [(n : Int)] := by simp [idxL, List.range_succ]
theorem idxL_mem {n : Nat} {x : Int} : x ∈ idxL n ↔ 0 ≤ x ∧ x < n := by
  simp only [idxL, List.mem_map, List.mem_range]
  constructor
  · rintro ⟨i, hi, rfl⟩; omega
  · intro h; exact ⟨x.toNat, by omega, by omega⟩
/-- Sorted so that the greater remainder comes first, the smaller place first among equal ones. -/
def srtL (r : Int → Int) (n : Nat) : List Int := isortL (fun a b => decide (cmpN (r b) (r a) < 0)) (idxL n)
theorem cmp_lt {x y : Int} : cmpN x y < 0 ↔ x < y := by
  unfold cmpN
  split
  · rename_i h; simp [h]
  · rename_i h
    split <;> simp [h]
theorem srtL_succ {r : Int → Int} {n : Nat} : srtL r (n + 1) = insR (fun a b => decide (cmpN (r b) (r a) < 0)) (srtL r n) n := by rw [srtL, idxL_succ, isort_snoc']; rfl
theorem srtL_len {r : Int → Int} {n : Nat} : (srtL r n).length = n := by rw [srtL, isort_len, idxL_len]
theorem srtL_perm {r : Int → Int} : ∀ {n : Nat}, (srtL r n).Perm (idxL n)
  | 0 => List.Perm.refl _
  | n + 1 => by
    rw [srtL_succ, idxL_succ, insR]
    exact insAt_perm.trans (((srtL_perm (n := n)).cons _).trans (List.perm_append_singleton _ _).symm)
theorem srtL_mem {r : Int → Int} {n : Nat} {x : Int} : x ∈ srtL r n ↔ 0 ≤ x ∧ x < n := by rw [srtL_perm.mem_iff, idxL_mem]
theorem srtL_pw {r : Int → Int} : ∀ {n : Nat}, (srtL r n).Pairwise (bef r)
  | 0 => List.Pairwise.nil
  | n + 1 => by
    have ih := srtL_pw (r := r) (n := n)
    rw [List.pairwise_iff_getElem] at ih
    have hl := srtL_len (r := r) (n := n)
    rw [srtL_succ, insR]
    generalize hk : insPos (fun k => decide (cmpN (r (ix (srtL r n) (k : Int))) (r (n : Int)) < 0)) (srtL r n).length = k
    have hkl : k ≤ (srtL r n).length := by rw [← hk]; exact insPos_le _ _
    have hge : ∀ j (hj : j < (srtL r n).length), k ≤ j → r (srtL r n)[j] < r n := fun j hj hkj => by
      have := insPos_ge (c := fun k => decide (cmpN (r (ix (srtL r n) (k : Int))) (r (n : Int)) < 0)) (by rw [hk]; exact hkj) hj
      rw [ix_elem hj] at this
      exact cmp_lt.1 (of_decide_eq_true this)
    have hlt : ∀ j (hj : j < (srtL r n).length), j < k → r n ≤ r (srtL r n)[j] := fun j hj hjk => by
      have h1 := insPos_no' hk (by omega)
      simp only [ix_elem (show k - 1 < (srtL r n).length by omega)] at h1
      have h2 : ¬ r (srtL r n)[k - 1] < r n := fun h => by
        rw [decide_eq_true (cmp_lt.2 h)] at h1
        exact absurd h1 (by decide)
      rcases Nat.lt_or_ge j (k - 1) with h3 | h3
      · rcases ih j (k - 1) hj (by omega) h3 with h4 | h4 <;> omega
      · have e : j = k - 1 := by omega
        subst e
        omega
    have hnm : ∀ j (hj : j < (srtL r n).length), (srtL r n)[j] < n := fun j hj => (srtL_mem.1 (List.getElem_mem hj)).2
    unfold insAt
    rw [List.pairwise_append, List.pairwise_cons]
    refine ⟨?_, ⟨fun y hy => ?_, ?_⟩, fun a ha b hb => ?_⟩
    · exact (srtL_pw (r := r) (n := n)).sublist (List.take_sublist _ _)
    · obtain ⟨j, hj, rfl⟩ := List.mem_iff_getElem.1 hy
      rw [List.getElem_drop]
      exact .inl (hge _ _ (by omega))
    · exact (srtL_pw (r := r) (n := n)).sublist (List.drop_sublist _ _)
    · obtain ⟨j, hj, rfl⟩ := List.mem_iff_getElem.1 ha
      rw [List.length_take] at hj
      rw [List.getElem_take]
      have h1 := hlt j (by omega) (by omega)
      have h2 := hnm j (by omega)
      have hbx : bef r (srtL r n)[j] n := by
        rcases Int.lt_or_eq_of_le h1 with h3 | h3
        · exact .inl h3
        · exact .inr ⟨h3.symm, h2⟩
      rcases List.mem_cons.1 hb with rfl | hb
      · exact hbx
      · obtain ⟨l, hll, rfl⟩ := List.mem_iff_getElem.1 hb
        rw [List.length_drop] at hll
        rw [List.getElem_drop]
        exact ih _ _ _ _ (by omega)
theorem srtL_at {r : Int → Int} {n j : Nat} (hj : j < n) : 0 ≤ ix (srtL r n) j ∧ ix (srtL r n) j < n := by
  have hl := srtL_len (r := r) (n := n)
  rw [ix_elem (by omega)]
  exact srtL_mem.1 (List.getElem_mem _)
theorem srtL_bef {r : Int → Int} {n i j : Nat} (hij : i < j) (hj : j < n) : bef r (ix (srtL r n) i) (ix (srtL r n) j) := by
  have hl := srtL_len (r := r) (n := n)
  have h := List.pairwise_iff_getElem.1 (srtL_pw (r := r) (n := n)) i j (by omega) (by omega) hij
  rw [ix_elem (by omega), ix_elem (by omega)]
  exact h
theorem bef_ne {r : Int → Int} {a b : Int} (h : bef r a b) : a ≠ b := fun e => by
  subst e
  rcases h with h | h <;> omega
theorem srtL_ex {r : Int → Int} {n : Nat} {b : Int} (h0 : 0 ≤ b) (h1 : b < n) : ∃ l : Nat, l < n ∧ ix (srtL r n) l = b := by
  obtain ⟨l, hl, e⟩ := List.mem_iff_getElem.1 (srtL_mem (r := r) (n := n) (x := b) |>.2 ⟨h0, h1⟩)
  have hl' := hl
  rw [srtL_len] at hl'
  exact ⟨l, hl', by rw [ix_elem hl, e]⟩
/-! The remainders with -1 at those that were taken; the place of the greatest one. -/
def rsF (r : Int → Int) (n : Nat) : Nat → List Int
  | 0 => (idxL n).map r
  | j + 1 => (rsF r n j).set (ix (srtL r n) j).toNat (-1)
theorem rsF_len {r : Int → Int} {n : Nat} : ∀ {j : Nat}, (rsF r n j).length = n
  | 0 => by simp [rsF, idxL]
  | j + 1 => by rw [rsF, List.length_set, rsF_len]
theorem rsF_at {r : Int → Int} {n : Nat} {b : Int} (h0 : 0 ≤ b) (h1 : b < n) : ∀ {j : Nat}, j ≤ n → (∀ l : Nat, l < j → ix (srtL r n) l ≠ b) → ix (rsF r n j) b = r b
  | 0, _, _ => by
    have hb : b.toNat < n := by omega
    have e : ((b.toNat : Nat) : Int) = b := by omega
    rw [← e, ix_elem (by rw [rsF_len]; exact hb)]
    simp [rsF, idxL]
  | j + 1, hj, h => by
    have ih := rsF_at h0 h1 (j := j) (by omega) fun l hl => h l (by omega)
    have hne := h j (by omega)
    have hs := srtL_at (r := r) (n := n) (j := j) (by omega)
    rw [rsF, ← ih, ix_setNe hs.1 h0 hne]
theorem rsF_tk {r : Int → Int} {n : Nat} {l : Nat} (hl : l < n) : ∀ {j : Nat}, j ≤ n → l < j → ix (rsF r n j) (ix (srtL r n) l) = -1
  | 0, _, h => by omega
  | j + 1, hj, h => by
    have hs := srtL_at (r := r) (n := n) (j := l) hl
    have hsj := srtL_at (r := r) (n := n) (j := j) (by omega)
    rw [rsF]
    by_cases e : l = j
    · subst e
      have e2 : (((ix (srtL r n) l).toNat : Nat) : Int) = ix (srtL r n) l := by omega
      have hlt : (ix (srtL r n) l).toNat < ((rsF r n l).set (ix (srtL r n) l).toNat (-1)).length := by rw [List.length_set, rsF_len]; omega
      generalize hx : (rsF r n l).set (ix (srtL r n) l).toNat (-1) = y at hlt ⊢
      rw [← e2, ix_elem hlt]
      subst hx
      simp
    · have ih := rsF_tk (r := r) hl (j := j) (by omega) (by omega)
      have hne := bef_ne (srtL_bef (r := r) (n := n) (i := l) (j := j) (by omega) (by omega))
      rw [← ih, ix_setNe hsj.1 hs.1 (fun e => hne e.symm)]
/-- The first of the greatest ones is the next one in order. -/
theorem rsF_best {r : Int → Int} {n j : Nat} (hr : ∀ b : Int, 0 ≤ b → b < n → 0 ≤ r b) (hj : j < n) {b : Int} (h0 : 0 ≤ b) (h1 : b < n) (h : ∀ i : Int, 0 ≤ i → i < n → ix (rsF r n j) i ≤ ix (rsF r n j) b ∧ (i < b → ix (rsF r n j) i < ix (rsF r n j) b)) : b = ix (srtL r n) j := by
  have hs := srtL_at (r := r) (n := n) (j := j) hj
  have hsr : ix (rsF r n j) (ix (srtL r n) j) = r (ix (srtL r n) j) := rsF_at hs.1 hs.2 (by omega) fun l hl => bef_ne (srtL_bef hl hj)
  have hrs := hr _ hs.1 hs.2
  obtain ⟨l, hl, e⟩ := srtL_ex (r := r) h0 h1
  have hbs := h _ hs.1 hs.2
  rcases Nat.lt_trichotomy l j with hlj | hlj | hlj
  · have := rsF_tk (r := r) hl (j := j) (by omega) hlj
    rw [e] at this
    omega
  · rw [← e, hlj]
  · have hb : ix (rsF r n j) b = r b := rsF_at h0 h1 (by omega) fun l' hl' he => by
      have := bef_ne (srtL_bef (r := r) (n := n) (i := l') (j := l) (by omega) hl)
      rw [e] at this
      exact this he
    have hbf := srtL_bef (r := r) (n := n) hlj hl
    rw [e] at hbf
    rcases hbf with h3 | h3
    · omega
    · have := hbs.2
      omega
/-! The division. -/
def spR (a : Int) (m : List Int) (i : Int) : Int := a * ix m i % preI m m.length
def spQ (a : Int) (m : List Int) (i : Int) : Int := a * ix m i / preI m m.length
def spL (a : Int) (m : List Int) (k : Nat) : List Int := (idxL k).map (spQ a m)
def spT (a : Int) (m : List Int) : Nat → Int
  | 0 => 0
  | k + 1 => spT a m k + spQ a m k
def spF (a : Int) (m : List Int) : Nat → List Int
  | 0 => spL a m m.length
  | j + 1 => (spF a m j).set (ix (srtL (spR a m) m.length) j).toNat (ix (spF a m j) (ix (srtL (spR a m) m.length) j) + 1)
theorem spL_len {a : Int} {m : List Int} {k : Nat} : (spL a m k).length = k := by simp [spL, idxL]
theorem spL_succ {a : Int} {m : List Int} {k : Nat} : spL a m (k + 1) = spL a m k ++ [spQ a m k] := by simp [spL, idxL_succ]
theorem spL_at {a : Int} {m : List Int} {k i : Nat} (hi : i < k) : ix (spL a m k) i = spQ a m i := by
  rw [ix_elem (by rw [spL_len]; exact hi)]
  simp [spL, idxL]
theorem spF_len {a : Int} {m : List Int} : ∀ {j : Nat}, (spF a m j).length = m.length
  | 0 => spL_len
  | j + 1 => by rw [spF, List.length_set, spF_len]
structure SpOk (a : Int) (m : List Int) : Prop where
  am : 0 ≤ a ∧ a ≤ 1000000
  ln : 1 ≤ (m.length : Int) ∧ (m.length : Int) ≤ 10
  v : ∀ i : Nat, i < m.length → 0 ≤ ix m i ∧ ix m i ≤ 10000
  s : preI m m.length ≠ 0
theorem pre_bd {m : List Int} (h : ∀ i : Nat, i < m.length → 0 ≤ ix m i ∧ ix m i ≤ 10000) : ∀ {k : Nat}, k ≤ m.length → 0 ≤ preI m k ∧ preI m k ≤ 10000 * k
  | 0, _ => by simp [preI]
  | k + 1, hk => by
    have h1 := pre_bd h (k := k) (by omega)
    have h2 := h k (by omega)
    rw [preI]
    omega
theorem pre_bd' {m : List Int} : ∀ {k : Nat}, (∀ i : Nat, i < k → 0 ≤ ix m i ∧ ix m i ≤ 10000) → 0 ≤ preI m k ∧ preI m k ≤ 10000 * k
  | 0, _ => by simp [preI]
  | k + 1, h => by
    have h1 := pre_bd' (m := m) (k := k) fun i hi => h i (by omega)
    have h2 := h k (by omega)
    rw [preI]
    omega
theorem SpOk.pos {a : Int} {m : List Int} (h : SpOk a m) : 1 ≤ preI m m.length ∧ preI m m.length ≤ 100000 := by
  have h1 := pre_bd h.v (k := m.length) (Nat.le_refl _)
  have h2 := h.s
  have h3 := h.ln
  omega
theorem SpOk.mul {a : Int} {m : List Int} (h : SpOk a m) {i : Nat} (hi : i < m.length) : 0 ≤ a * ix m i ∧ a * ix m i ≤ 10000000000 := by
  have h1 := h.v i hi
  have h2 := Int.mul_nonneg h.am.1 h1.1
  have h3 := Int.mul_le_mul h.am.2 h1.2 h1.1 (by omega)
  omega
theorem SpOk.r {a : Int} {m : List Int} (h : SpOk a m) (b : Int) : 0 ≤ spR a m b ∧ spR a m b < preI m m.length := ⟨Int.emod_nonneg _ h.s, Int.emod_lt_of_pos _ (by have := h.pos; omega)⟩
theorem SpOk.q {a : Int} {m : List Int} (h : SpOk a m) {i : Nat} (hi : i < m.length) : 0 ≤ spQ a m i ∧ spQ a m i ≤ 10000000000 := by
  have h1 := h.mul hi
  have h2 := h.pos
  refine ⟨Int.ediv_nonneg h1.1 (by omega), Int.le_trans (Int.ediv_le_self _ h1.1) h1.2⟩
theorem SpOk.sum {a : Int} {m : List Int} (h : SpOk a m) : ∀ {k : Nat}, k ≤ m.length → preI m m.length * spT a m k ≤ a * preI m k ∧ a * preI m k ≤ preI m m.length * spT a m k + (preI m m.length - 1) * k
  | 0, _ => by simp [spT, preI]
  | k + 1, hk => by
    have ih := h.sum (k := k) (by omega)
    have hd := Int.mul_ediv_add_emod (a * ix m k) (preI m m.length)
    have hr := h.r (k : Int)
    unfold spR at hr
    rw [spT, preI, Int.mul_add, Int.mul_add]
    have e : spQ a m k = a * ix m k / preI m m.length := rfl
    rw [e]
    have e2 : (preI m m.length - 1) * ((k + 1 : Nat) : Int) = (preI m m.length - 1) * (k : Int) + (preI m m.length - 1) := by
      rw [show ((k + 1 : Nat) : Int) = (k : Int) + 1 by omega, Int.mul_add, Int.mul_one]
    rw [e2]
    omega
theorem spT_nn {a : Int} {m : List Int} (h : SpOk a m) : ∀ {k : Nat}, k ≤ m.length → 0 ≤ spT a m k ∧ spT a m k ≤ 10000000000 * k
  | 0, _ => by simp [spT]
  | k + 1, hk => by
    have h1 := spT_nn h (k := k) (by omega)
    have h2 := h.q (i := k) (by omega)
    rw [spT]
    omega
theorem SpOk.left {a : Int} {m : List Int} (h : SpOk a m) : 0 ≤ a - spT a m m.length ∧ a - spT a m m.length < m.length := by
  have hs := h.sum (k := m.length) (Nat.le_refl _)
  have hp := h.pos
  have hn := h.ln
  have e : preI m m.length * (a - spT a m m.length) = a * preI m m.length - preI m m.length * spT a m m.length := by rw [Int.mul_sub, Int.mul_comm a]
  have e2 : (preI m m.length - 1) * (m.length : Int) = preI m m.length * (m.length : Int) - (m.length : Int) := by rw [Int.sub_mul, Int.one_mul]
  rw [e2] at hs
  constructor
  · refine Int.not_lt.1 fun hl => ?_
    have := Int.mul_le_mul_of_nonneg_left (show a - spT a m m.length ≤ -1 by omega) (show 0 ≤ preI m m.length by omega)
    omega
  · refine Int.not_le.1 fun hl => ?_
    have := Int.mul_le_mul_of_nonneg_left hl (show 0 ≤ preI m m.length by omega)
    omega
theorem spF_at {a : Int} {m : List Int} (h : SpOk a m) : ∀ {j : Nat}, j ≤ m.length → ∀ i : Nat, i < m.length → 0 ≤ ix (spF a m j) i ∧ ix (spF a m j) i ≤ 10000000000 + j
  | 0, _, i, hi => by
    rw [spF, spL_at hi]
    have := h.q hi
    omega
  | j + 1, hj, i, hi => by
    have ih := spF_at h (j := j) (by omega)
    have hs := srtL_at (r := spR a m) (n := m.length) (j := j) (by omega)
    have hl := spF_len (a := a) (m := m) (j := j)
    have hx := ih (ix (srtL (spR a m) m.length) j).toNat (by omega)
    rw [show (((ix (srtL (spR a m) m.length) j).toNat : Nat) : Int) = ix (srtL (spR a m) m.length) j by omega] at hx
    rw [spF, ix_elem (by rw [List.length_set]; omega), List.getElem_set]
    split
    · omega
    · have := ih i hi
      rw [ix_elem (by omega)] at this
      omega
end Go.Proofs.Ytmmemadlnjjdmaa
