/- The vehicles before another one: both ways. -/
import Derived.Test.YtanlaggnhocjhaaDpu
import Derived.Test.YtanlaggnhocjhaaOwnG
namespace Go.Proofs.Ytanlaggnhocjhaa
set_option linter.unusedSimpArgs false
set_option linter.unusedVariables false
open Go.RowKit Go.ChangeShapes Go.WideShapes Go.ChangeAt Go.Deep
theorem cg_cloneI {e : Option TypeId} (xs : List Int) (hb : xs.length ≤ 1048576) : CTG Try.prog 54 [.inr (uS e pI xs)] (fun s => .inr (uO s (oF 3 pI flat_I) xs)) := by
  refine CTG_of Try.func54 rfl rfl rfl (fun w s hs => ?_)
  refine H_open 0 rfl (fun q u0 hw hr0 => ?_)
  obtain ⟨A, n, c, rfl, hn, hnc, hcm, hall⟩ := id hr0
  have hE : Ext w q := hw
  have hC := upC_ext q
  cases A with
  | none =>
    have hx0 : xs = [] := by
      cases xs with
      | nil => rfl
      | cons z zs =>
        obtain ⟨b, o, cs, hA, _⟩ := hall 0 z rfl
        cases hA
    try any_goals (first | (refine H_seq ?_; try refine H_reg ?_) | refine H_reg ?_)
    try any_goals (refine W_assign (d := 2) (sq_stepper hC) rfl rfl rfl ?_)
    try any_goals (first | (refine Sq_nil ?_; try refine G_then ?_) | refine G_then ?_)
    try any_goals (refine H_seq ?_)
    try any_goals (first | (refine H_seq ?_; try refine H_reg ?_) | refine H_reg ?_)
    try any_goals (refine W_move (d := 3) (sq_stepper hC) rfl rfl rfl ?_)
    try any_goals (first | refine W_eqlNilV (d := 4) (sq_stepper hC) (e := 3) Try.underlying39 rfl rfl rfl rfl ?_ | refine W_cmp (d := 4) (sq_stepper hC) rfl rfl rfl rfl rfl ?_ | refine W_eqlStr (d := 4) (sq_stepper hC) rfl rfl rfl rfl ?_ | refine W_eqlB (d := 4) (sq_stepper hC) rfl rfl Try.underlying4 rfl rfl ?_)
    try any_goals (first | (refine Sq_nil ?_; try refine G_then ?_) | refine G_then ?_)
    try any_goals (first | refine H_condT rfl ?_ | refine H_condF rfl ?_ | (refine H_cond _ rfl (fun hq => ?_) (fun hq => ?_) <;> (try simp only [hqs, reduceCtorEq] at hq)))
    try any_goals (first | (refine H_seq ?_; try refine H_reg ?_) | refine H_reg ?_)
    try any_goals (refine W_assign (d := 2) (sq_stepper hC) rfl rfl rfl ?_)
    try any_goals (first | (refine Sq_nil ?_; try refine G_then ?_) | refine G_then ?_)
    try any_goals (refine H_ret ?_)
    repeat (any_goals (first | refine G_ret_then ?_ | refine G_ret_block ?_))
    try any_goals (refine H_skip ?_)
    try any_goals (refine G_then ?_)
    try any_goals (first | (refine H_seq ?_; try refine H_reg ?_) | refine H_reg ?_)
    try any_goals (refine W_buildS (d := 5) (sq_stepper hC) [] pI [] (e := 3) (by kernel_rfl) (by kernel_rfl) rfl rfl (by kernel_rfl) rfl rfl rfl trivial ?_)
    try any_goals (refine W_move (d := 6) (sq_stepper hC) rfl rfl rfl ?_)
    try any_goals (fail)
    try any_goals (refine W_assign (d := 2) (sq_stepper hC) rfl rfl rfl ?_)
    try any_goals (first | (refine Sq_nil ?_; try refine G_then ?_) | refine G_then ?_)
    try any_goals (refine H_ret ?_)
    repeat (any_goals (first | refine G_ret_then ?_ | refine G_ret_block ?_))
    all_goals exact R1 rfl (fun _ h => hE.trans h) rfl (fun v w' _ hv => by rw [show v = _ from hv, hx0]; exact nil_OS)
  | some a =>
    refine H_weakenC (C' := Sep q []) (fun w' h => sep_start h) ?_
    have hC : UpC (Sep q []) := upC_sep
    try any_goals (first | (refine H_seq ?_; try refine H_reg ?_) | refine H_reg ?_)
    try any_goals (refine W_assign (d := 2) (sq_stepper upC_sep) rfl rfl rfl ?_)
    try any_goals (first | (refine Sq_nil ?_; try refine G_then ?_) | refine G_then ?_)
    try any_goals (refine H_seq ?_)
    try any_goals (first | (refine H_seq ?_; try refine H_reg ?_) | refine H_reg ?_)
    try any_goals (refine W_move (d := 3) (sq_stepper upC_sep) rfl rfl rfl ?_)
    try any_goals (first | refine W_eqlNilV (d := 4) (sq_stepper upC_sep) (e := 3) Try.underlying39 rfl rfl rfl rfl ?_ | refine W_cmp (d := 4) (sq_stepper upC_sep) rfl rfl rfl rfl rfl ?_ | refine W_eqlStr (d := 4) (sq_stepper upC_sep) rfl rfl rfl rfl ?_ | refine W_eqlB (d := 4) (sq_stepper upC_sep) rfl rfl Try.underlying4 rfl rfl ?_)
    try any_goals (first | (refine Sq_nil ?_; try refine G_then ?_) | refine G_then ?_)
    try any_goals (first | refine H_condT rfl ?_ | refine H_condF rfl ?_ | (refine H_cond _ rfl (fun hq => ?_) (fun hq => ?_) <;> (try simp only [hqs, reduceCtorEq] at hq)))
    try any_goals (first | (refine H_seq ?_; try refine H_reg ?_) | refine H_reg ?_)
    try any_goals (refine W_assign (d := 2) (sq_stepper upC_sep) rfl rfl rfl ?_)
    try any_goals (first | (refine Sq_nil ?_; try refine G_then ?_) | refine G_then ?_)
    try any_goals (refine H_ret ?_)
    repeat (any_goals (first | refine G_ret_then ?_ | refine G_ret_block ?_))
    try any_goals (refine H_skip ?_)
    try any_goals (refine G_then ?_)
    try any_goals (first | (refine H_seq ?_; try refine H_reg ?_) | refine H_reg ?_)
    try any_goals ((refine Sq_buildS (d := 5) [] pI [] (e := 3) (by kernel_rfl) (by kernel_rfl) rfl rfl (by kernel_rfl) rfl rfl trivial rfl (fun v5 => ?_)))
    try any_goals (first | refine W_moveR (d := 6) (sq_stepper upC_sep) (U := uS e pI xs) (fun w' h => UR.lift (Sep.ext h) hr0) rfl rfl rfl ?_ | refine W_move (d := 6) (sq_stepper upC_sep) rfl rfl rfl ?_)
    try any_goals ((refine Sq_appSZ (d := 7) 0 (Ψ := pI) rfl (by repeat (first | exact trivial | refine ⟨?_, ?_⟩)) (by kernel_rfl) (by kernel_rfl) rfl rfl rfl (by simp only [List.length_nil]; omega) (fun va => ?_)))
    try any_goals (refine W_assign (d := 2) (sq_stepper upC_sep) rfl rfl rfl ?_)
    try any_goals (first | (refine Sq_nil ?_; try refine G_then ?_) | refine G_then ?_)
    try any_goals (refine H_ret ?_)
    repeat (any_goals (first | refine G_ret_then ?_ | refine G_ret_block ?_))
    all_goals exact R1 rfl (fun _ h => hE.trans h.ext) rfl (fun v w' hc hv => by rw [show v = _ from hv]; exact hc.isO (m := 0) rfl (Nat.le_trans hs hE.size))
theorem DepF.row {d : Dep} (h : DepF d) {i : Int} (h0 : 0 ≤ i) (h1 : i < d.T.length) : ((ix d.T i).length : Int) ≤ 1048576 := by
  have := h.a (ix d.T i.toNat) (mem_ix (by omega) (by omega))
  rw [show ((i.toNat : Nat) : Int) = i by omega] at this
  omega
/-! A list turned round. -/
def bkL (xs : List Int) (j : Nat) : List Int := (xs.drop (xs.length - j)).reverse
theorem bkL_len {xs : List Int} {j : Nat} (h : j ≤ xs.length) : (bkL xs j).length = j := by rw [bkL, List.length_reverse, List.length_drop]; omega
theorem bkL_step {xs : List Int} {j : Nat} (hj : j < xs.length) : bkL xs (j + 1) = bkL xs j ++ [ix xs ((xs.length : Int) - 1 - j)] := by
  have e : xs.drop (xs.length - (j + 1)) = xs[xs.length - (j + 1)] :: xs.drop (xs.length - j) := by
    rw [List.drop_eq_getElem_cons (by omega), show xs.length - (j + 1) + 1 = xs.length - j by omega]
  rw [bkL, e, List.reverse_cons, ← bkL, show (xs.length : Int) - 1 - j = ((xs.length - (j + 1) : Nat) : Int) by omega, ix_elem (by omega)]
theorem bkL_0 {xs : List Int} : bkL xs 0 = [] := by simp [bkL]
def rvL (xs : List Int) (i : Nat) : List Int := (List.range xs.length).map fun k : Nat => if k < i ∨ xs.length ≤ k + i then ix xs ((xs.length - 1 - k : Nat) : Int) else ix xs k
theorem rvL_len {xs : List Int} {i : Nat} : (rvL xs i).length = xs.length := by simp [rvL]
theorem rvL_at {xs : List Int} {i k : Nat} (hk : k < xs.length) : ix (rvL xs i) k = if k < i ∨ xs.length ≤ k + i then ix xs ((xs.length - 1 - k : Nat) : Int) else ix xs k := by
  rw [ix_elem (by rw [rvL_len]; exact hk)]
  simp [rvL]
theorem rvL_0 {xs : List Int} : rvL xs 0 = xs := by
  apply List.ext_getElem rvL_len
  intro k h1 h2
  rw [← ix_elem h1, ← ix_elem h2, rvL_at h2, if_neg (by omega)]
theorem rvL_all {xs : List Int} {i : Nat} (h : xs.length ≤ 2 * i + 1) : rvL xs i = xs.reverse := by
  apply List.ext_getElem (by rw [rvL_len, List.length_reverse])
  intro k h1 h2
  have hk : k < xs.length := by rw [rvL_len] at h1; exact h1
  rw [← ix_elem h1, rvL_at hk, List.getElem_reverse]
  by_cases e : k < i ∨ xs.length ≤ k + i
  · rw [if_pos e, ix_elem (by omega)]
  · rw [if_neg e, ix_elem hk]
    congr 1
    omega
theorem rvL_step {xs : List Int} {i : Nat} (h : 2 * i + 1 < xs.length) : ((rvL xs i).set i (ix (rvL xs i) ((xs.length - 1 - i : Nat) : Int))).set (xs.length - 1 - i) (ix (rvL xs i) (i : Int)) = rvL xs (i + 1) := by
  rw [rvL_at (k := xs.length - 1 - i) (by omega), rvL_at (k := i) (by omega), if_neg (by omega), if_neg (by omega)]
  apply List.ext_getElem (by rw [List.length_set, List.length_set, rvL_len, rvL_len])
  intro k h1 h2
  have hk : k < xs.length := by rw [rvL_len] at h2; exact h2
  rw [← ix_elem h2, rvL_at hk, List.getElem_set, List.getElem_set]
  by_cases e1 : xs.length - 1 - i = k
  · rw [if_pos e1, if_pos (by omega), show xs.length - 1 - k = i by omega]
  · rw [if_neg e1]
    by_cases e2 : i = k
    · rw [if_pos e2, if_pos (by omega), e2]
    · rw [if_neg e2, ← ix_elem (by rw [rvL_len]; exact hk), rvL_at hk]
      by_cases e3 : k < i ∨ xs.length ≤ k + i
      · rw [if_pos e3, if_pos (by omega)]
      · rw [if_neg e3, if_neg (by omega)]
theorem rvL_step2 {xs : List Int} {i : Nat} {j : Int} (hj : j = (xs.length : Int) - 1 - i) (h : (i : Int) < j) : ((rvL xs i).set i (ix (rvL xs i) j)).set j.toNat (ix (rvL xs i) (i : Int)) = rvL xs (i + 1) := by
  have e : j = ((xs.length - 1 - i : Nat) : Int) := by omega
  subst hj
  rw [e, Int.toNat_natCast]
  exact rvL_step (by omega)
attribute [irreducible] rvL
/-! The place of a vehicle. -/
end Go.Proofs.Ytanlaggnhocjhaa
