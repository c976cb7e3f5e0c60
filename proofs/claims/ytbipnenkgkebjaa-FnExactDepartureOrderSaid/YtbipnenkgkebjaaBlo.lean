/- The vehicles before another one: both ways. -/
import Derived.Test.YtbipnenkgkebjaaDpu
import Derived.Test.YtbipnenkgkebjaaOwnG
namespace Go.Proofs.Ytbipnenkgkebjaa
set_option linter.unusedSimpArgs false
set_option linter.unusedVariables false
open Go.RowKit Go.ChangeShapes Go.WideShapes Go.ChangeAt Go.Deep
theorem cg_cloneI {e : Option TypeId} (xs : List Int) (hb : xs.length ≤ 1048576) : CTG Try.prog 57 [.inr (uS e pI xs)] (fun s => .inr (uO s (oF 3 pI flat_I) xs)) := by
  refine CTG_of Try.func57 rfl rfl rfl (fun w s hs => ?_)
  refine H_open 0 rfl (fun q u0 hw hr0 => ?_)
  obtain ⟨A, n, c, rfl, hn, hnc, hcm, hall⟩ := id hr0
  have hE : Ext w q := hw
  have hC := upC_ext q
  cases A with
  | none =>
    have hx0 : xs = [] := by
      cases xs with
      | nil => rfl
      | cons z zs =>
        obtain ⟨b, o, cs, hA, _⟩ := hall 0 z rfl
        cases hA
    try any_goals (first | (refine H_seq ?_; try refine H_reg ?_) | refine H_reg ?_)
    try any_goals (refine W_assign (d := 2) (sq_stepper hC) rfl rfl rfl ?_)
    try any_goals (first | (refine Sq_nil ?_; try refine G_then ?_) | refine G_then ?_)
    try any_goals (refine H_seq ?_)
    try any_goals (first | (refine H_seq ?_; try refine H_reg ?_) | refine H_reg ?_)
    try any_goals (refine W_move (d := 3) (sq_stepper hC) rfl rfl rfl ?_)
    try any_goals (first | refine W_eqlNilV (d := 4) (sq_stepper hC) (e := 3) Try.underlying22 rfl rfl rfl rfl ?_ | refine W_cmp (d := 4) (sq_stepper hC) rfl rfl rfl rfl rfl ?_ | refine W_eqlStr (d := 4) (sq_stepper hC) rfl rfl rfl rfl ?_ | refine W_eqlB (d := 4) (sq_stepper hC) rfl rfl Try.underlying4 rfl rfl ?_)
    try any_goals (first | (refine Sq_nil ?_; try refine G_then ?_) | refine G_then ?_)
    try any_goals (first | refine H_condT rfl ?_ | refine H_condF rfl ?_ | (refine H_cond _ rfl (fun hq => ?_) (fun hq => ?_) <;> (try simp only [hqs, reduceCtorEq] at hq)))
    try any_goals (first | (refine H_seq ?_; try refine H_reg ?_) | refine H_reg ?_)
    try any_goals (refine W_assign (d := 2) (sq_stepper hC) rfl rfl rfl ?_)
    try any_goals (first | (refine Sq_nil ?_; try refine G_then ?_) | refine G_then ?_)
    try any_goals (refine H_ret ?_)
    repeat (any_goals (first | refine G_ret_then ?_ | refine G_ret_block ?_))
    try any_goals (refine H_skip ?_)
    try any_goals (refine G_then ?_)
    try any_goals (first | (refine H_seq ?_; try refine H_reg ?_) | refine H_reg ?_)
    try any_goals (refine W_buildS (d := 5) (sq_stepper hC) [] pI [] (e := 3) (by kernel_rfl) (by kernel_rfl) rfl rfl (by kernel_rfl) rfl rfl rfl trivial ?_)
    try any_goals (refine W_move (d := 6) (sq_stepper hC) rfl rfl rfl ?_)
    try any_goals (fail)
    try any_goals (refine W_assign (d := 2) (sq_stepper hC) rfl rfl rfl ?_)
    try any_goals (first | (refine Sq_nil ?_; try refine G_then ?_) | refine G_then ?_)
    try any_goals (refine H_ret ?_)
    repeat (any_goals (first | refine G_ret_then ?_ | refine G_ret_block ?_))
    all_goals exact R1 rfl (fun _ h => hE.trans h) rfl (fun v w' _ hv => by rw [show v = _ from hv, hx0]; exact nil_OS)
  | some a =>
    refine H_weakenC (C' := Sep q []) (fun w' h => sep_start h) ?_
    have hC : UpC (Sep q []) := upC_sep
    try any_goals (first | (refine H_seq ?_; try refine H_reg ?_) | refine H_reg ?_)
    try any_goals (refine W_assign (d := 2) (sq_stepper upC_sep) rfl rfl rfl ?_)
    try any_goals (first | (refine Sq_nil ?_; try refine G_then ?_) | refine G_then ?_)
    try any_goals (refine H_seq ?_)
    try any_goals (first | (refine H_seq ?_; try refine H_reg ?_) | refine H_reg ?_)
    try any_goals (refine W_move (d := 3) (sq_stepper upC_sep) rfl rfl rfl ?_)
    try any_goals (first | refine W_eqlNilV (d := 4) (sq_stepper upC_sep) (e := 3) Try.underlying22 rfl rfl rfl rfl ?_ | refine W_cmp (d := 4) (sq_stepper upC_sep) rfl rfl rfl rfl rfl ?_ | refine W_eqlStr (d := 4) (sq_stepper upC_sep) rfl rfl rfl rfl ?_ | refine W_eqlB (d := 4) (sq_stepper upC_sep) rfl rfl Try.underlying4 rfl rfl ?_)
    try any_goals (first | (refine Sq_nil ?_; try refine G_then ?_) | refine G_then ?_)
    try any_goals (first | refine H_condT rfl ?_ | refine H_condF rfl ?_ | (refine H_cond _ rfl (fun hq => ?_) (fun hq => ?_) <;> (try simp only [hqs, reduceCtorEq] at hq)))
    try any_goals (first | (refine H_seq ?_; try refine H_reg ?_) | refine H_reg ?_)
    try any_goals (refine W_assign (d := 2) (sq_stepper upC_sep) rfl rfl rfl ?_)
    try any_goals (first | (refine Sq_nil ?_; try refine G_then ?_) | refine G_then ?_)
    try any_goals (refine H_ret ?_)
    repeat (any_goals (first | refine G_ret_then ?_ | refine G_ret_block ?_))
    try any_goals (refine H_skip ?_)
    try any_goals (refine G_then ?_)
    try any_goals (first | (refine H_seq ?_; try refine H_reg ?_) | refine H_reg ?_)
    try any_goals ((refine Sq_buildS (d := 5) [] pI [] (e := 3) (by kernel_rfl) (by kernel_rfl) rfl rfl (by kernel_rfl) rfl rfl trivial rfl (fun v5 => ?_)))
    try any_goals (first | refine W_moveR (d := 6) (sq_stepper upC_sep) (U := uS e pI xs) (fun w' h => UR.lift (Sep.ext h) hr0) rfl rfl rfl ?_ | refine W_move (d := 6) (sq_stepper upC_sep) rfl rfl rfl ?_)
    try any_goals ((refine Sq_appSZ (d := 7) 0 (Ψ := pI) rfl (by repeat (first | exact trivial | refine ⟨?_, ?_⟩)) (by kernel_rfl) (by kernel_rfl) rfl rfl rfl (by simp only [List.length_nil]; omega) (fun va => ?_)))
    try any_goals (refine W_assign (d := 2) (sq_stepper upC_sep) rfl rfl rfl ?_)
    try any_goals (first | (refine Sq_nil ?_; try refine G_then ?_) | refine G_then ?_)
    try any_goals (refine H_ret ?_)
    repeat (any_goals (first | refine G_ret_then ?_ | refine G_ret_block ?_))
    all_goals exact R1 rfl (fun _ h => hE.trans h.ext) rfl (fun v w' hc hv => by rw [show v = _ from hv]; exact hc.isO (m := 0) rfl (Nat.le_trans hs hE.size))
theorem DepF.row {d : Dep} (h : DepF d) {i : Int} (h0 : 0 ≤ i) (h1 : i < d.T.length) : ((ix d.T i).length : Int) ≤ 1048576 := by
  have := h.a (ix d.T i.toNat) (mem_ix (by omega) (by omega))
  rw [show ((i.toNat : Nat) : Int) = i by omega] at this
  omega
/-! A list turned round. -/
def bkL (xs : List Int) (j : Nat) : List Int := (xs.drop (xs.length - j)).reverse
theorem bkL_len {xs : List Int} {j : Nat} (h : j ≤ xs.length) : (bkL xs j).length = j := by rw [bkL, List.length_reverse, List.length_drop]; omega
theorem bkL_step {xs : List Int} {j : Nat} (hj : j < xs.length) : bkL xs (j + 1) = bkL xs j ++ [ix xs ((xs.length : Int) - 1 - j)] := by
  have e : xs.drop (xs.length - (j + 1)) = xs[xs.length - (j + 1)] :: xs.drop (xs.length - j) := by
    rw [List.drop_eq_getElem_cons (by omega), show xs.length - (j + 1) + 1 = xs.length - j by omega]
  rw [bkL, e, List.reverse_cons, ← bkL, show (xs.length : Int) - 1 - j = ((xs.length - (j + 1) : Nat) : Int) by omega, ix_elem (by omega)]
theorem bkL_0 {xs : List Int} : bkL xs 0 = [] := by simp [bkL]
def rvL (xs : List Int) (i : Nat) : List Int := (List.range xs.length).map fun k : Nat => if k < i ∨ xs.length ≤ k + i then ix xs ((xs.length - 1 - k : Nat) : Int) else ix xs k
theorem rvL_len {xs : List Int} {i : Nat} : (rvL xs i).length = xs.length := by simp [rvL]
theorem rvL_at {xs : List Int} {i k : Nat} (hk : k < xs.length) : ix (rvL xs i) k = if k < i ∨ xs.length ≤ k + i then ix xs ((xs.length - 1 - k : Nat) : Int) else ix xs k := by
  rw [ix_elem (by rw [rvL_len]; exact hk)]
  simp [rvL]
theorem rvL_0 {xs : List Int} : rvL xs 0 = xs := by
  apply List.ext_getElem rvL_len
  intro k h1 h2
  rw [← ix_elem h1, ← ix_elem h2, rvL_at h2, if_neg (by omega)]
theorem rvL_all {xs : List Int} {i : Nat} (h : xs.length ≤ 2 * i + 1) : rvL xs i = xs.reverse := by
  apply List.ext_getElem (by rw [rvL_len, List.length_reverse])
  intro k h1 h2
  have hk : k < xs.length := by rw [rvL_len] at h1; exact h1
  rw [← ix_elem h1, rvL_at hk, List.getElem_reverse]
  by_cases e : k < i ∨ xs.length ≤ k + i
  · rw [if_pos e, ix_elem (by omega)]
  · rw [if_neg e, ix_elem hk]
    congr 1
    omega
theorem rvL_step {xs : List Int} {i : Nat} (h : 2 * i + 1 < xs.length) : ((rvL xs i).set i (ix (rvL xs i) ((xs.length - 1 - i : Nat) : Int))).set (xs.length - 1 - i) (ix (rvL xs i) (i : Int)) = rvL xs (i + 1) := by
  rw [rvL_at (k := xs.length - 1 - i) (by omega), rvL_at (k := i) (by omega), if_neg (by omega), if_neg (by omega)]
  apply List.ext_getElem (by rw [List.length_set, List.length_set, rvL_len, rvL_len])
  intro k h1 h2
  have hk : k < xs.length := by rw [rvL_len] at h2; exact h2
  rw [← ix_elem h2, rvL_at hk, List.getElem_set, List.getElem_set]
  by_cases e1 : xs.length - 1 - i = k
  · rw [if_pos e1, if_pos (by omega), show xs.length - 1 - k = i by omega]
  · rw [if_neg e1]
    by_cases e2 : i = k
    · rw [if_pos e2, if_pos (by omega), e2]
    · rw [if_neg e2, ← ix_elem (by rw [rvL_len]; exact hk), rvL_at hk]
      by_cases e3 : k < i ∨ xs.length ≤ k + i
      · rw [if_pos e3, if_pos (by omega)]
      · rw [if_neg e3, if_neg (by omega)]
theorem rvL_step2 {xs : List Int} {i : Nat} {j : Int} (hj : j = (xs.length : Int) - 1 - i) (h : (i : Int) < j) : ((rvL xs i).set i (ix (rvL xs i) j)).set j.toNat (ix (rvL xs i) (i : Int)) = rvL xs (i + 1) := by
  have e : j = ((xs.length - 1 - i : Nat) : Int) := by omega
  subst hj
  rw [e, Int.toNat_natCast]
  exact rvL_step (by omega)
attribute [irreducible] rvL
theorem cx_Rev {w0 : World} {L : List Osl} (m : Nat) {xs : List Int} {v : Value} (hm : L[m]? = some (.sl Int 3 pI xs v)) (hav : avAll L 3) (hn : xs.length ≤ 1048576) :
    CTX Try.prog 71 (Sep w0 L) [.inl v] (σ := Unit) (fun _ => Sep w0 (L.set m (.sl Int 3 pI xs.reverse v))) (fun _ => .inl (.tuple #[])) := by
  have hav1 : ∀ ys, avAll (L.set m (.sl Int 3 pI ys v)) 3 := fun ys => hav.set trivial
  have hln : ∀ i, (rvL xs i).length = xs.length := fun i => rvL_len
  refine CTX_of Try.func71 rfl rfl rfl ?_
  try any_goals (first | (refine H_seq ?_; try refine H_reg ?_) | refine H_reg ?_)
  try any_goals (refine W_move (d := 4) (sq_stepper upC_sep) rfl rfl rfl ?_)
  try any_goals (refine W_lenS (d := 5) m (sq_stepper upC_sep) hm (by kernel_rfl) rfl rfl rfl ?_)
  try any_goals (refine W_ar (d := 6) (sq_stepper upC_sep) rfl rfl rfl rfl rfl (by first | omega | (dsimp only; omega)) ?_)
  try any_goals (refine W_assign (d := 2) (sq_stepper upC_sep) rfl rfl rfl ?_)
  try any_goals (refine W_assign (d := 3) (sq_stepper upC_sep) rfl rfl rfl ?_)
  try any_goals (first | (refine Sq_nil ?_; try refine G_then ?_) | refine G_then ?_)
  try any_goals (refine H_block ?_)
  try any_goals ((refine H_loop (σ := Nat × Int) (fun x => x.1 ≤ xs.length ∧ x.2 = (xs.length : Int) - 1 - x.1) (fun x => [(0, .inl v), (2, .inl (.int .i64 x.1)), (3, .inl (.int .i64 x.2))]) (fun x => Sep w0 (L.set m (.sl Int 3 pI (rvL xs x.1) v))) (fun x => xs.length - x.1) (0, (xs.length : Int) - 1) ⟨Nat.zero_le _, by simp⟩ (fun a w' h => h.sub (by repeat (first | exact trivial | refine ⟨⟨_, rfl, fun _ _ _ h => h⟩, ?_⟩ | refine ⟨⟨_, rfl, fun v w _ h => (show v = _ from h).trans (congrArg (Value.int .i64) (by first | omega | (dsimp only; omega)))⟩, ?_⟩)) (fun w' h => by rw [rvL_0, set_same' hm]; exact h)) (fun x hx => ?_); obtain ⟨i, j⟩ := x; obtain ⟨hi, hj⟩ := hx; simp only at hi hj))
  try any_goals (refine H_seq ?_)
  try any_goals (first | (refine H_seq ?_; try refine H_reg ?_) | refine H_reg ?_)
  try any_goals (refine W_move (d := 7) (sq_stepper upC_sep) rfl rfl rfl ?_)
  try any_goals (refine W_move (d := 8) (sq_stepper upC_sep) rfl rfl rfl ?_)
  try any_goals (first | refine W_cmp (d := 9) (sq_stepper upC_sep) rfl rfl rfl rfl rfl ?_ | refine W_strcmp (d := 9) (sq_stepper upC_sep) rfl rfl rfl rfl rfl ?_)
  try any_goals (first | (refine Sq_nil ?_; try refine G_then ?_) | refine G_then ?_)
  try any_goals (first | refine H_condT rfl ?_ | refine H_condF rfl (Wt.un 0 ?_) | (refine H_cond _ rfl (fun hq => ?_) (fun hq => Wt.un 0 ?_) <;> (try simp only [hqs, reduceCtorEq] at hq)))
  try any_goals (refine H_skip ?_)
  try any_goals (refine G_hold 1 ?_)
  try any_goals (refine Wt.out 0 ?_)
  try any_goals (refine H_exit ?_)
  repeat (any_goals (first | refine G_exit_then ?_ | refine G_exit_here ?_ | refine G_exit_far rfl ?_))
  try any_goals (refine G_hold 2 ?_)
  try any_goals (refine Wt.out 1 ?_)
  try any_goals (refine G_then ?_)
  try any_goals (refine H_seq ?_)
  try any_goals (refine H_block ?_)
  try any_goals (refine H_drawT [2, 3] [0, 1, 4, 5, 6, 7, 8, 9, 10, 11, 12] [13, 14, 15] (by kernel_rfl) (by kernel_rfl) upC_sep (fun _ _ _ _ _ h => h) ?_)
  try any_goals (refine L_move rfl rfl ?_)
  try any_goals (refine L_move rfl rfl ?_)
  try any_goals (refine L_nil ?_)
  try any_goals (refine W_move (d := 14) wkH_stepper rfl rfl rfl ?_)
  try any_goals (refine W_move (d := 15) wkH_stepper rfl rfl rfl ?_)
  try any_goals (refine W_move (d := 18) wkH_stepper rfl rfl rfl ?_)
  try any_goals (refine W_move (d := 19) wkH_stepper rfl rfl rfl ?_)
  try any_goals (refine W_idxS1 (d := 20) m wkH_stepper (hm_set hm) rfl (by kernel_rfl) rfl rfl rfl rfl ⟨by omega, by rw [hln]; omega⟩ ?_)
  try any_goals (refine W_loadSI (d := 21) m wkH_stepper (hm_set hm) ⟨by omega, by rw [hln]; omega⟩ (by kernel_rfl) rfl rfl rfl ?_)
  try any_goals (refine W_move (d := 22) wkH_stepper rfl rfl rfl ?_)
  try any_goals (refine W_move (d := 23) wkH_stepper rfl rfl rfl ?_)
  try any_goals (refine W_idxS1 (d := 24) m wkH_stepper (hm_set hm) rfl (by kernel_rfl) rfl rfl rfl rfl ⟨by omega, by rw [hln]; omega⟩ ?_)
  try any_goals (refine W_loadSI (d := 25) m wkH_stepper (hm_set hm) ⟨by omega, by rw [hln]; omega⟩ (by kernel_rfl) rfl rfl rfl ?_)
  try any_goals (refine W_idxS1 (d := 26) m wkH_stepper (hm_set hm) rfl (by kernel_rfl) rfl rfl rfl rfl ⟨by omega, by rw [hln]; omega⟩ ?_)
  try any_goals (refine WkH_nil ?_)
  try any_goals (refine Sq_storeSI m (hm_set hm) (hav1 _) ⟨by omega, by rw [hln]; omega⟩ (by kernel_rfl) rfl rfl ?_)
  try any_goals (refine W_idxS1 (d := 27) m (sq_stepper upC_sep) (hm_set (hm_set hm)) rfl (by kernel_rfl) rfl rfl rfl rfl ⟨by omega, by rw [List.length_set, hln]; omega⟩ ?_)
  try any_goals (refine Sq_storeSI m (hm_set (hm_set hm)) ((hav1 _).set trivial) ⟨by omega, by rw [List.length_set, hln]; omega⟩ (by kernel_rfl) rfl rfl ?_)
  try any_goals (refine Sq_nil ?_)
  repeat (any_goals (first | refine G_exit_then ?_ | refine G_exit_here ?_ | refine G_exit_far rfl ?_ | refine G_normal_block ?_))
  try any_goals (refine G_then ?_)
  try any_goals (refine H_reg ?_)
  try any_goals (refine W_move (d := 10) (sq_stepper upC_sep) rfl rfl rfl ?_)
  try any_goals (refine W_ar (d := 11) (sq_stepper upC_sep) rfl rfl rfl rfl rfl (by first | omega | (dsimp only; omega)) ?_)
  try any_goals (refine W_move (d := 12) (sq_stepper upC_sep) rfl rfl rfl ?_)
  try any_goals (refine W_ar (d := 13) (sq_stepper upC_sep) rfl rfl rfl rfl rfl (by first | omega | (dsimp only; omega)) ?_)
  try any_goals (refine W_assign (d := 2) (sq_stepper upC_sep) rfl rfl rfl ?_)
  try any_goals (refine W_assign (d := 3) (sq_stepper upC_sep) rfl rfl rfl ?_)
  try any_goals (refine Sq_nil ?_)
  try any_goals (refine G_again (i + 1, j - 1) ⟨by simp only; omega, by simp only; omega⟩ (by simp only; omega) (by repeat (first | exact trivial | refine ⟨⟨_, rfl, fun _ _ _ h => h⟩, ?_⟩ | refine ⟨⟨_, rfl, fun v w _ h => (show v = _ from h).trans (congrArg (Value.int .i64) (by first | omega | (dsimp only; omega)))⟩, ?_⟩)) (fun w' h => ?_))
  try any_goals (refine Wt.out 2 ?_)
  repeat (any_goals (first | refine G_exit_then ?_ | refine G_exit_here ?_ | refine G_exit_far rfl ?_ | refine G_normal_block ?_))
  all_goals (try dsimp only)
  all_goals first
    | (rw [List.set_set, List.set_set, Int.toNat_natCast, rvL_step2 hj (by omega)] at h; exact h)
    | exact RX0 rfl (fun w h => ⟨(), by rw [rvL_all (by omega)] at h; exact h, rfl⟩)
    | trace_state
/-! The place of a vehicle. -/
theorem ct_placeIn {e1 e2 : Option TypeId} (T : List (List Int)) (v : Int) (hl : T.length ≤ 1048576) : CT Try.prog 56 [.inr (uS e1 (pS e2 pI) T), .inl (.int .i64 v)] (.inr (uT [.inl (.int .i64 (plI T v)), .inl (.int .i64 (if plI T v < 0 then 0 else plK T v))])) := by
  refine CT_of Try.func56 rfl rfl rfl (fun w => ?_)
  have hC := upC_ext w
  try any_goals (first | (refine H_seq ?_; try refine H_reg ?_) | refine H_reg ?_)
  try any_goals (refine W_assign (d := 4) (sq_stepper hC) rfl rfl rfl ?_)
  try any_goals (refine W_assign (d := 5) (sq_stepper hC) rfl rfl rfl ?_)
  try any_goals (first | (refine Sq_nil ?_; try refine G_then ?_) | refine G_then ?_)
  try any_goals (refine H_seq ?_)
  try any_goals (first | (refine H_seq ?_; try refine H_reg ?_) | refine H_reg ?_)
  try any_goals (refine W_move (d := 9) (sq_stepper hC) rfl rfl rfl ?_)
  try any_goals (first | refine W_len (d := 10) (sq_stepper hC) (by kernel_rfl) rfl rfl rfl ?_ | refine W_lenStr (d := 10) (sq_stepper hC) (by kernel_rfl) rfl rfl rfl ?_)
  try any_goals (refine W_move (d := 11) (sq_stepper hC) rfl rfl rfl ?_)
  try any_goals (first | (refine Sq_nil ?_; try refine G_then ?_) | refine G_then ?_)
  try any_goals (refine H_block ?_)
  try any_goals ((refine H_loop (σ := Nat) (fun i => i ≤ T.length ∧ ∀ j : Nat, j < i → ¬ v ∈ ix T j) (fun i => [(1, .inl (.int .i64 v)), (9, .inr (uS e1 (pS e2 pI) T)), (10, .inl (.int .i64 T.length)), (11, .inl (.int .i64 i))]) (fun _ => Ext w) (fun i => T.length - i) 0 ⟨Nat.zero_le _, fun j hj => absurd hj (Nat.not_lt_zero _)⟩ (fun a w h => h.sub (by repeat (first | exact trivial | refine ⟨⟨_, rfl, fun _ _ _ h => h⟩, ?_⟩ | refine ⟨⟨_, rfl, fun v w _ h => (show v = _ from h).trans (congrArg (Value.int .i64) (by first | omega | (dsimp only; omega)))⟩, ?_⟩)) fun _ h => h) (fun i hi => ?_); obtain ⟨hi, hall⟩ := hi))
  try any_goals (first | (refine H_seq ?_; try refine H_reg ?_) | refine H_reg ?_)
  try any_goals (first | refine W_cmp (d := 12) (sq_stepper hC) rfl rfl rfl rfl rfl ?_ | refine W_strcmp (d := 12) (sq_stepper hC) rfl rfl rfl rfl rfl ?_)
  try any_goals (first | (refine Sq_nil ?_; try refine G_then ?_) | refine G_then ?_)
  try any_goals (refine H_seq ?_)
  try any_goals (first | refine H_condT rfl ?_ | refine H_condF rfl ?_ | (refine H_cond _ rfl (fun hq => ?_) (fun hq => ?_) <;> (try simp only [hqs, reduceCtorEq] at hq)))
  try any_goals (refine H_skip ?_)
  try any_goals (refine H_exit ?_)
  repeat (any_goals (first | refine G_exit_then ?_ | refine G_exit_here ?_ | refine G_exit_far rfl ?_))
  try any_goals (refine G_then ?_)
  try any_goals (refine H_seq ?_)
  try any_goals (refine H_block ?_)
  try any_goals (first | (refine H_seq ?_; try refine H_reg ?_) | refine H_reg ?_)
  try any_goals (refine W_move (d := 13) (sq_stepper hC) rfl rfl rfl ?_)
  try any_goals (refine W_index (d := 14) (sq_stepper hC) (by kernel_rfl) rfl rfl rfl rfl (by first | omega | (dsimp only; omega)) ?_)
  try any_goals (refine W_loadS (d := 15) (sq_stepper hC) (by kernel_rfl) rfl rfl rfl ?_)
  try any_goals (refine W_assign (d := 6) (sq_stepper hC) rfl rfl rfl ?_)
  try any_goals (refine W_assign (d := 7) (sq_stepper hC) rfl rfl rfl ?_)
  try any_goals (first | (refine Sq_nil ?_; try refine G_then ?_) | refine G_then ?_)
  try any_goals (first | (refine H_seq ?_; try refine H_reg ?_) | refine H_reg ?_)
  try any_goals (refine W_move (d := 16) (sq_stepper hC) rfl rfl rfl ?_)
  try any_goals (refine W_move (d := 17) (sq_stepper hC) rfl rfl rfl ?_)
  try any_goals (refine W_ct (d := 18) (sq_stepper hC) (ct_IndexInt _ _) rfl rfl rfl (by kernel_rfl) ?_)
  try any_goals (refine W_assign (d := 8) (sq_stepper hC) rfl rfl rfl ?_)
  try any_goals (first | (refine Sq_nil ?_; try refine G_then ?_) | refine G_then ?_)
  try any_goals (first | (refine H_seq ?_; try refine H_reg ?_) | refine H_reg ?_)
  try any_goals (refine W_move (d := 19) (sq_stepper hC) rfl rfl rfl ?_)
  try any_goals (first | refine W_cmp (d := 20) (sq_stepper hC) rfl rfl rfl rfl rfl ?_ | refine W_strcmp (d := 20) (sq_stepper hC) rfl rfl rfl rfl rfl ?_)
  try any_goals (first | (refine Sq_nil ?_; try refine G_then ?_) | refine G_then ?_)
  try any_goals (first | refine H_condT rfl ?_ | refine H_condF rfl ?_ | (refine H_cond _ rfl (fun hq => ?_) (fun hq => ?_) <;> (try simp only [hqs, reduceCtorEq] at hq)))
  try any_goals (first | (refine H_seq ?_; try refine H_reg ?_) | refine H_reg ?_)
  try any_goals (refine W_move (d := 21) (sq_stepper hC) rfl rfl rfl ?_)
  try any_goals (refine W_move (d := 22) (sq_stepper hC) rfl rfl rfl ?_)
  try any_goals (refine W_assign (d := 4) (sq_stepper hC) rfl rfl rfl ?_)
  try any_goals (refine W_assign (d := 5) (sq_stepper hC) rfl rfl rfl ?_)
  try any_goals (first | (refine Sq_nil ?_; try refine G_then ?_) | refine G_then ?_)
  try any_goals (refine H_ret ?_)
  repeat (any_goals (first | refine G_ret_then ?_ | refine G_ret_block ?_))
  try any_goals (refine H_skip ?_)
  repeat (any_goals (first | refine G_exit_then ?_ | refine G_exit_here ?_ | refine G_exit_far rfl ?_ | refine G_normal_block ?_))
  try any_goals (refine G_then ?_)
  try any_goals (refine H_reg ?_)
  try any_goals (refine W_ar (d := 23) (sq_stepper hC) rfl rfl rfl rfl rfl (by first | omega | (dsimp only; omega)) ?_)
  try any_goals (refine W_move (d := 11) (sq_stepper hC) rfl rfl rfl ?_)
  try any_goals (refine Sq_nil ?_)
  try any_goals (refine G_again (i + 1) ⟨by omega, fun j hj => ?_⟩ (by omega) (by repeat (first | exact trivial | refine ⟨⟨_, rfl, fun _ _ _ h => h⟩, ?_⟩ | refine ⟨⟨_, rfl, fun v w _ h => (show v = _ from h).trans (congrArg (Value.int .i64) (by first | omega | (dsimp only; omega)))⟩, ?_⟩)) (fun _ h => h))
  repeat (any_goals (first | refine G_exit_then ?_ | refine G_exit_here ?_ | refine G_exit_far rfl ?_ | refine G_normal_block ?_))
  try any_goals (refine G_then ?_)
  try any_goals (first | (refine H_seq ?_; try refine H_reg ?_) | refine H_reg ?_)
  try any_goals (refine W_assign (d := 4) (sq_stepper hC) rfl rfl rfl ?_)
  try any_goals (refine W_assign (d := 5) (sq_stepper hC) rfl rfl rfl ?_)
  try any_goals (first | (refine Sq_nil ?_; try refine G_then ?_) | refine G_then ?_)
  try any_goals (refine H_ret ?_)
  repeat (any_goals (first | refine G_ret_then ?_ | refine G_ret_block ?_))
  all_goals first
    | (rcases Nat.lt_or_ge j i with h1 | h1
       · exact hall j h1
       · have e : j = i := by omega
         subst e
         intro hin
         have := fndI_mem.2 hin
         omega)
    | (have hp := plI_at (T := T) (v := v) (i := i) (by omega) (fndI_mem.1 (by omega)) hall
       exact R2v rfl (fun _ h => h) rfl rfl (by rw [hp]) (by rw [if_neg (by omega), plK, hp]))
    | (have hp := plI_no (T := T) (v := v) (fun j hj => hall j (by omega))
       exact R2v rfl (fun _ h => h) rfl rfl (by rw [hp]) (by rw [if_pos (by omega)]))
    | trace_state
theorem ct_l15Track (d : Dep) (v : Int) (hf : DepF d) : CT Try.prog 40 [.inr (uA bDep d), .inl (.int .i64 v)] (.inr (uT [.inl (.int .i64 (plI d.T v)), .inl (.int .i64 (if plI d.T v < 0 then -1 else plK d.T v))])) := by
  have hft := hf.t
  have hfr := fun i => hf.row (i := i)
  refine CT_of Try.func40 rfl rfl rfl (fun w => ?_)
  have hC := upC_ext w
  try any_goals (first | (refine H_seq ?_; try refine H_reg ?_) | refine H_reg ?_)
  try any_goals (refine W_boxA (d := 2) (sq_stepper hC) rfl rfl rfl ?_)
  try any_goals (refine W_assign (d := 4) (sq_stepper hC) rfl rfl rfl ?_)
  try any_goals (refine W_assign (d := 5) (sq_stepper hC) rfl rfl rfl ?_)
  try any_goals (first | (refine Sq_nil ?_; try refine G_then ?_) | refine G_then ?_)
  try any_goals (refine H_seq ?_)
  try any_goals (first | (refine H_seq ?_; try refine H_reg ?_) | refine H_reg ?_)
  try any_goals (refine W_assign (d := 6) (sq_stepper hC) rfl rfl rfl ?_)
  try any_goals (first | (refine Sq_nil ?_; try refine G_then ?_) | refine G_then ?_)
  try any_goals (refine H_block ?_)
  try any_goals ((refine H_loop (σ := Nat) (fun i => i ≤ d.T.length ∧ ∀ j : Nat, j < i → ¬ v ∈ ix d.T j) (fun i => [(1, .inl (.int .i64 v)), (2, .inr (uP bDep d)), (6, .inl (.int .i64 i))]) (fun _ => Ext w) (fun i => d.T.length - i) 0 ⟨Nat.zero_le _, fun j hj => absurd hj (Nat.not_lt_zero _)⟩ (fun a w h => h.sub (by repeat (first | exact trivial | refine ⟨⟨_, rfl, fun _ _ _ h => h⟩, ?_⟩ | refine ⟨⟨_, rfl, fun v w _ h => (show v = _ from h).trans (congrArg (Value.int .i64) (by first | omega | (dsimp only; omega)))⟩, ?_⟩)) fun _ h => h) (fun i hi => ?_); obtain ⟨hi, hall⟩ := hi; have hfi := hfr i))
  try any_goals (refine H_seq ?_)
  try any_goals (first | (refine H_seq ?_; try refine H_reg ?_) | refine H_reg ?_)
  try any_goals (refine W_move (d := 8) (sq_stepper hC) rfl rfl rfl ?_)
  try any_goals (first | refine W_fieldG (d := 9) (sq_stepper hC) (Proj.tail _ _ (Proj.head _ _ _)) (by kernel_rfl) rfl rfl rfl ?_ | refine W_fieldC (d := 9) (sq_stepper hC) (off := 1) (by kernel_rfl) rfl rfl rfl ?_)
  try any_goals (refine W_loadS (d := 10) (sq_stepper hC) (by kernel_rfl) rfl rfl rfl ?_)
  try any_goals (first | refine W_len (d := 11) (sq_stepper hC) (by kernel_rfl) rfl rfl rfl ?_ | refine W_lenStr (d := 11) (sq_stepper hC) (by kernel_rfl) rfl rfl rfl ?_)
  try any_goals (first | refine W_cmp (d := 12) (sq_stepper hC) rfl rfl rfl rfl rfl ?_ | refine W_strcmp (d := 12) (sq_stepper hC) rfl rfl rfl rfl rfl ?_)
  try any_goals (first | (refine Sq_nil ?_; try refine G_then ?_) | refine G_then ?_)
  try any_goals (first | refine H_condT rfl ?_ | refine H_condF rfl ?_ | (refine H_cond _ rfl (fun hq => ?_) (fun hq => ?_) <;> (try simp only [hqs, reduceCtorEq] at hq)))
  try any_goals (refine H_skip ?_)
  try any_goals (refine H_exit ?_)
  repeat (any_goals (first | refine G_exit_then ?_ | refine G_exit_here ?_ | refine G_exit_far rfl ?_))
  try any_goals (refine G_then ?_)
  try any_goals (refine H_seq ?_)
  try any_goals (refine H_block ?_)
  try any_goals (first | (refine H_seq ?_; try refine H_reg ?_) | refine H_reg ?_)
  try any_goals (refine W_assign (d := 7) (sq_stepper hC) rfl rfl rfl ?_)
  try any_goals (first | (refine Sq_nil ?_; try refine G_then ?_) | refine G_then ?_)
  try any_goals (refine H_block ?_)
  try any_goals ((refine H_loop (σ := Nat) (fun k => k ≤ (ix d.T i).length ∧ ∀ m : Nat, m < k → decide (ix (ix d.T i) m = v) = false) (fun k => [(1, .inl (.int .i64 v)), (2, .inr (uP bDep d)), (6, .inl (.int .i64 i)), (7, .inl (.int .i64 k))]) (fun _ => Ext w) (fun k => (ix d.T i).length - k) 0 ⟨Nat.zero_le _, fun j hj => absurd hj (Nat.not_lt_zero _)⟩ (fun a w h => h.sub (by repeat (first | exact trivial | refine ⟨⟨_, rfl, fun _ _ _ h => h⟩, ?_⟩ | refine ⟨⟨_, rfl, fun v w _ h => (show v = _ from h).trans (congrArg (Value.int .i64) (by first | omega | (dsimp only; omega)))⟩, ?_⟩)) fun _ h => h) (fun k hk => ?_); obtain ⟨hk, hkall⟩ := hk))
  try any_goals (refine H_seq ?_)
  try any_goals (first | (refine H_seq ?_; try refine H_reg ?_) | refine H_reg ?_)
  try any_goals (refine W_move (d := 15) (sq_stepper hC) rfl rfl rfl ?_)
  try any_goals (first | refine W_fieldG (d := 16) (sq_stepper hC) (Proj.tail _ _ (Proj.head _ _ _)) (by kernel_rfl) rfl rfl rfl ?_ | refine W_fieldC (d := 16) (sq_stepper hC) (off := 1) (by kernel_rfl) rfl rfl rfl ?_)
  try any_goals (refine W_loadS (d := 17) (sq_stepper hC) (by kernel_rfl) rfl rfl rfl ?_)
  try any_goals (refine W_move (d := 18) (sq_stepper hC) rfl rfl rfl ?_)
  try any_goals (refine W_index (d := 19) (sq_stepper hC) (by kernel_rfl) rfl rfl rfl rfl (by first | omega | (dsimp only; omega)) ?_)
  try any_goals (refine W_loadS (d := 20) (sq_stepper hC) (by kernel_rfl) rfl rfl rfl ?_)
  try any_goals (first | refine W_len (d := 21) (sq_stepper hC) (by kernel_rfl) rfl rfl rfl ?_ | refine W_lenStr (d := 21) (sq_stepper hC) (by kernel_rfl) rfl rfl rfl ?_)
  try any_goals (first | refine W_cmp (d := 22) (sq_stepper hC) rfl rfl rfl rfl rfl ?_ | refine W_strcmp (d := 22) (sq_stepper hC) rfl rfl rfl rfl rfl ?_)
  try any_goals (first | (refine Sq_nil ?_; try refine G_then ?_) | refine G_then ?_)
  try any_goals (first | refine H_condT rfl ?_ | refine H_condF rfl ?_ | (refine H_cond _ rfl (fun hq => ?_) (fun hq => ?_) <;> (try simp only [hqs, reduceCtorEq] at hq)))
  try any_goals (refine H_skip ?_)
  try any_goals (refine H_exit ?_)
  repeat (any_goals (first | refine G_exit_then ?_ | refine G_exit_here ?_ | refine G_exit_far rfl ?_))
  try any_goals (refine G_then ?_)
  try any_goals (refine H_seq ?_)
  try any_goals (refine H_block ?_)
  try any_goals (first | (refine H_seq ?_; try refine H_reg ?_) | refine H_reg ?_)
  try any_goals (first | refine W_fieldG (d := 25) (sq_stepper hC) (Proj.tail _ _ (Proj.head _ _ _)) (by kernel_rfl) rfl rfl rfl ?_ | refine W_fieldC (d := 25) (sq_stepper hC) (off := 1) (by kernel_rfl) rfl rfl rfl ?_)
  try any_goals (refine W_loadS (d := 26) (sq_stepper hC) (by kernel_rfl) rfl rfl rfl ?_)
  try any_goals (refine W_move (d := 27) (sq_stepper hC) rfl rfl rfl ?_)
  try any_goals (refine W_index (d := 28) (sq_stepper hC) (by kernel_rfl) rfl rfl rfl rfl (by first | omega | (dsimp only; omega)) ?_)
  try any_goals (refine W_loadS (d := 29) (sq_stepper hC) (by kernel_rfl) rfl rfl rfl ?_)
  try any_goals (refine W_move (d := 30) (sq_stepper hC) rfl rfl rfl ?_)
  try any_goals (refine W_index (d := 31) (sq_stepper hC) (by kernel_rfl) rfl rfl rfl rfl (by first | omega | (dsimp only; omega)) ?_)
  try any_goals (refine W_loadI (d := 32) (sq_stepper hC) (by kernel_rfl) rfl rfl rfl ?_)
  try any_goals (refine W_move (d := 33) (sq_stepper hC) rfl rfl rfl ?_)
  try any_goals (first | refine W_cmp (d := 34) (sq_stepper hC) rfl rfl rfl rfl rfl ?_ | refine W_eqlStr (d := 34) (sq_stepper hC) rfl rfl rfl rfl ?_ | refine W_eqlB (d := 34) (sq_stepper hC) rfl rfl Try.underlying4 rfl rfl ?_)
  try any_goals (first | (refine Sq_nil ?_; try refine G_then ?_) | refine G_then ?_)
  try any_goals (first | refine H_condT rfl ?_ | refine H_condF rfl ?_ | (refine H_cond _ rfl (fun hq => ?_) (fun hq => ?_) <;> (try simp only [hqs, reduceCtorEq] at hq)))
  try any_goals (first | (refine H_seq ?_; try refine H_reg ?_) | refine H_reg ?_)
  try any_goals (refine W_move (d := 35) (sq_stepper hC) rfl rfl rfl ?_)
  try any_goals (refine W_move (d := 36) (sq_stepper hC) rfl rfl rfl ?_)
  try any_goals (refine W_assign (d := 4) (sq_stepper hC) rfl rfl rfl ?_)
  try any_goals (refine W_assign (d := 5) (sq_stepper hC) rfl rfl rfl ?_)
  try any_goals (first | (refine Sq_nil ?_; try refine G_then ?_) | refine G_then ?_)
  try any_goals (refine H_ret ?_)
  repeat (any_goals (first | refine G_ret_then ?_ | refine G_ret_block ?_))
  try any_goals (refine H_skip ?_)
  repeat (any_goals (first | refine G_exit_then ?_ | refine G_exit_here ?_ | refine G_exit_far rfl ?_ | refine G_normal_block ?_))
  try any_goals (refine G_then ?_)
  try any_goals (refine H_reg ?_)
  try any_goals (refine W_move (d := 23) (sq_stepper hC) rfl rfl rfl ?_)
  try any_goals (refine W_ar (d := 24) (sq_stepper hC) rfl rfl rfl rfl rfl (by first | omega | (dsimp only; omega)) ?_)
  try any_goals (refine W_assign (d := 7) (sq_stepper hC) rfl rfl rfl ?_)
  try any_goals (refine Sq_nil ?_)
  try any_goals (refine G_again (k + 1) ⟨by omega, ?_⟩ (by omega) (by repeat (first | exact trivial | refine ⟨⟨_, rfl, fun _ _ _ h => h⟩, ?_⟩ | refine ⟨⟨_, rfl, fun v w _ h => (show v = _ from h).trans (congrArg (Value.int .i64) (by first | omega | (dsimp only; omega)))⟩, ?_⟩)) (fun _ h => h))
  repeat (any_goals (first | refine G_exit_then ?_ | refine G_exit_here ?_ | refine G_exit_far rfl ?_ | refine G_normal_block ?_))
  repeat (any_goals (first | refine G_exit_then ?_ | refine G_exit_here ?_ | refine G_exit_far rfl ?_ | refine G_normal_block ?_))
  try any_goals (refine G_then ?_)
  try any_goals (refine H_reg ?_)
  try any_goals (refine W_move (d := 13) (sq_stepper hC) rfl rfl rfl ?_)
  try any_goals (refine W_ar (d := 14) (sq_stepper hC) rfl rfl rfl rfl rfl (by first | omega | (dsimp only; omega)) ?_)
  try any_goals (refine W_assign (d := 6) (sq_stepper hC) rfl rfl rfl ?_)
  try any_goals (refine Sq_nil ?_)
  try any_goals (refine G_again (i + 1) ⟨by omega, fun j hj => ?_⟩ (by omega) (by repeat (first | exact trivial | refine ⟨⟨_, rfl, fun _ _ _ h => h⟩, ?_⟩ | refine ⟨⟨_, rfl, fun v w _ h => (show v = _ from h).trans (congrArg (Value.int .i64) (by first | omega | (dsimp only; omega)))⟩, ?_⟩)) (fun _ h => h))
  repeat (any_goals (first | refine G_exit_then ?_ | refine G_exit_here ?_ | refine G_exit_far rfl ?_ | refine G_normal_block ?_))
  try any_goals (refine G_then ?_)
  try any_goals (first | (refine H_seq ?_; try refine H_reg ?_) | refine H_reg ?_)
  try any_goals (refine W_assign (d := 4) (sq_stepper hC) rfl rfl rfl ?_)
  try any_goals (refine W_assign (d := 5) (sq_stepper hC) rfl rfl rfl ?_)
  try any_goals (first | (refine Sq_nil ?_; try refine G_then ?_) | refine G_then ?_)
  try any_goals (refine H_ret ?_)
  repeat (any_goals (first | refine G_ret_then ?_ | refine G_ret_block ?_))
  all_goals first
    | exact alln_stepF hkall (decide_eq_false (by omega))
    | (intro m hm
       rcases Nat.lt_or_ge m k with h1 | h1
       · exact hkall m h1
       · have e : m = k := by omega
         subst e
         exact decide_eq_false (by omega))
    | (rcases Nat.lt_or_ge j i with h1 | h1
       · exact hall j h1
       · have e : j = i := by omega
         subst e
         intro hin
         have h2 := fndI_mem.2 hin
         have h3 : fndI (ix d.T j) v = -1 := firstI_none (q := fun m : Nat => decide (ix (ix d.T j) m = v)) (fun m hm => hkall m (by omega))
         omega)
    | (have h3 : fndI (ix d.T i) v = k := firstI_some (q := fun m : Nat => decide (ix (ix d.T i) m = v)) (decide_eq_true (by omega)) hkall (by omega)
       have hp := plI_at (T := d.T) (v := v) (i := i) (by omega) (fndI_mem.1 (by omega)) hall
       exact R2v rfl (fun _ h => h) rfl rfl (by rw [hp]) (by rw [if_neg (by omega), plK, hp, h3]))
    | (have hp := plI_no (T := d.T) (v := v) (fun j hj => hall j (by omega))
       exact R2v rfl (fun _ h => h) rfl rfl (by rw [hp]) (by rw [if_pos (by omega)]))
    | trace_state
end Go.Proofs.Ytbipnenkgkebjaa
