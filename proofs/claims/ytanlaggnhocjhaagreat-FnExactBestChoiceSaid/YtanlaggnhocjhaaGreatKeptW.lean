/- What is kept of blocks, and whether a choice is possible: both ways. -/
import Derived.Test.YtanlaggnhocjhaaGreatKept
import Derived.Test.YtanlaggnhocjhaaGreatOwnG
namespace Go.Proofs.YtanlaggnhocjhaaGreat
set_option linter.unusedSimpArgs false
set_option linter.unusedVariables false
open Go.RowKit Go.ChangeShapes Go.WideShapes Go.ChangeAt Go.Deep
theorem fndI_mem {xs : List Int} {v : Int} : decide (0 ≤ fndI xs v) = decide (v ∈ xs) := by
  refine decide_eq_decide.2 ⟨fun h => ?_, fun h => ?_⟩
  · have h1 := firstI_val (q := fun j : Nat => decide (ix xs j = v)) (n := xs.length) h
    have hb := firstI_bd (q := fun j : Nat => decide (ix xs j = v)) (n := xs.length)
    have h2 : ix xs ((firstI (fun j : Nat => decide (ix xs j = v)) xs.length).toNat : Int) = v := of_decide_eq_true h1
    rw [← h2]
    unfold fndI at h
    exact mem_ix (by omega) (by omega)
  · obtain ⟨j, hj, e⟩ := List.mem_iff_getElem.1 h
    exact (firstI_le (q := fun j : Nat => decide (ix xs j = v)) (i := j) (decide_eq_true (by rw [ix_elem hj, e])) hj).1
theorem ct_Contains {e : Option TypeId} (xs : List Int) (v : Int) : CT Tryz.prog 91 [.inr (uS e pI xs), .inl (.int .i64 v)] (.inl (.bool (decide (v ∈ xs)))) := by
  refine CT_of Tryz.func91 rfl rfl rfl (fun w => ?_)
  have hC := upC_ext w
  try any_goals ((refine H_seq ?_; try refine H_reg ?_))
  try any_goals (refine W_assign (d := 4) (sq_stepper hC) rfl rfl rfl ?_)
  try any_goals ((refine Sq_nil ?_; try refine G_then ?_))
  try any_goals ((refine H_seq ?_; try refine H_reg ?_))
  try any_goals (refine W_move (d := 5) (sq_stepper hC) rfl rfl rfl ?_)
  try any_goals (refine W_move (d := 6) (sq_stepper hC) rfl rfl rfl ?_)
  try any_goals (refine W_ct (d := 7) (sq_stepper hC) (ct_IndexInt _ _) rfl rfl rfl (by kernel_rfl) ?_)
  try any_goals (refine W_cmp (d := 8) (sq_stepper hC) rfl rfl rfl rfl rfl ?_)
  try any_goals (refine W_assign (d := 4) (sq_stepper hC) rfl rfl rfl ?_)
  try any_goals ((refine Sq_nil ?_; try refine G_then ?_))
  try any_goals (refine H_ret ?_)
  repeat (any_goals (first | refine G_ret_then ?_ | refine G_ret_block ?_))
  all_goals first
    | exact R1v rfl (fun _ h => h) rfl (congrArg Value.bool fndI_mem)
    | exact R1v rfl (fun _ h => h) rfl (congrArg Value.bool (by rw [← fndI_mem]))
    | trace_state
theorem ct_l11Follows2 (t : Tab) (f : Flt) (i j : Int) (hv : tabB t = true) (hf : fltB t.N.S.length f = true) (hi : 0 ≤ i ∧ i < t.T.length) (hj : 0 ≤ j ∧ j < t.T.length) : CT Tryz.prog 81 [.inr (uA bTab t), .inr (uA bFlt f), .inl (.int .i64 i), .inl (.int .i64 j)] (.inl (.bool (folB t f (ix t.T i) (ix t.T j)))) := by
  by_cases hne : i = j
  · subst hne
    rw [folB_self hv hf hi]
    refine CT_of Tryz.func81 rfl rfl rfl (fun w => ?_)
    have hC := upC_ext w
    try any_goals ((refine H_seq ?_; try refine H_reg ?_))
    try any_goals (refine W_boxA (d := 4) (sq_stepper hC) rfl rfl rfl ?_)
    try any_goals (refine W_boxA (d := 5) (sq_stepper hC) rfl rfl rfl ?_)
    try any_goals (refine W_assign (d := 8) (sq_stepper hC) rfl rfl rfl ?_)
    try any_goals ((refine Sq_nil ?_; try refine G_then ?_))
    try any_goals (refine H_seq ?_)
    try any_goals (refine H_draw' (by kernel_rfl) hC ?_)
    try any_goals (refine W_move (d := 9) wk_stepper rfl rfl rfl ?_)
    try any_goals (refine W_move (d := 10) wk_stepper rfl rfl rfl ?_)
    try any_goals (refine W_cmp (d := 11) wk_stepper rfl rfl rfl rfl rfl ?_)
    try any_goals (refine W_move (d := 12) wk_stepper rfl rfl rfl ?_)
    try any_goals ((refine W_splitG wk_stepper _ rfl _ rfl (fun hq => ?_) (fun hq => ?_) <;> ((try simp only [hqs, reduceCtorEq, decide_true, Bool.not_true] at hq); try (have hq' := hq; clear hq))))
    try any_goals (refine W_skip (d := 13) wk_stepper rfl rfl ?_)
    try any_goals (refine W_skip (d := 14) wk_stepper rfl rfl ?_)
    try any_goals (refine W_skip (d := 15) wk_stepper rfl rfl ?_)
    try any_goals (refine W_skip (d := 16) wk_stepper rfl rfl ?_)
    try any_goals (refine W_skip (d := 17) wk_stepper rfl rfl ?_)
    try any_goals (refine W_skip (d := 18) wk_stepper rfl rfl ?_)
    try any_goals (refine W_skip (d := 19) wk_stepper rfl rfl ?_)
    try any_goals (refine W_skip (d := 20) wk_stepper rfl rfl ?_)
    try any_goals (refine W_skip (d := 21) wk_stepper rfl rfl ?_)
    try any_goals (refine W_skip (d := 22) wk_stepper rfl rfl ?_)
    try any_goals (refine W_skip (d := 23) wk_stepper rfl rfl ?_)
    try any_goals (refine W_skip (d := 24) wk_stepper rfl rfl ?_)
    try any_goals (refine W_skip (d := 25) wk_stepper rfl rfl ?_)
    try any_goals (refine W_skip (d := 26) wk_stepper rfl rfl ?_)
    try any_goals (refine W_skip (d := 27) wk_stepper rfl rfl ?_)
    try any_goals (refine W_skip (d := 28) wk_stepper rfl rfl ?_)
    try any_goals (refine W_skip (d := 29) wk_stepper rfl rfl ?_)
    try any_goals (refine W_skip (d := 30) wk_stepper rfl rfl ?_)
    try any_goals (refine W_skip (d := 31) wk_stepper rfl rfl ?_)
    try any_goals (refine W_pickF (d := 32) wk_stepper rfl rfl rfl rfl ?_)
    try any_goals (refine Wk_assign (by kernel_rfl) (by kernel_rfl) ?_)
    try any_goals (refine W_assign (d := 8) (sq_stepper hC) rfl rfl rfl ?_)
    try any_goals ((refine Sq_nil ?_; try refine G_then ?_))
    try any_goals (refine H_ret ?_)
    repeat (any_goals (first | refine G_ret_then ?_ | refine G_ret_block ?_))
    all_goals first
      | exact R1v rfl (fun _ h => h) rfl (by simp)
      | (exfalso; simp_all; done)
      | trace_state
  · exact ct_l11Follows t f i j hv hf hi hj hne
theorem ct_l19Kept {e1 e2 : Option TypeId} (b c : List Int) (hb : (b.length : Int) ≤ 1048576) : CT Tryz.prog 53 [.inr (uS e1 pI b), .inr (uS e2 pI c)] (.inr (uS (some 3) pI (keptL b c))) := by
  refine CT_of Tryz.func53 rfl rfl rfl (fun w => ?_)
  have hC := upC_ext w
  have hkl := fun i => keptP_le (b := b) (c := c) (k := i)
  try any_goals ((refine H_seq ?_; try refine H_reg ?_))
  try any_goals (refine W_assign (d := 4) (sq_stepper hC) rfl rfl rfl ?_)
  try any_goals ((refine Sq_nil ?_; try refine G_then ?_))
  try any_goals (refine H_seq ?_)
  try any_goals (have hE : Ext _ _ := Ext.refl w)
  try any_goals (refine H_open 0 rfl (fun q u0 hw hr0 => ?_); have hE := hE.trans hw)
  try any_goals (refine H_open 1 rfl (fun q u1 hw hr1 => ?_); have hE := hE.trans hw; have hr0 := UR.lift hw hr0)
  try any_goals (refine H_weakenC (C' := Sep q []) (fun w' h => sep_start h) ?_; have hC : UpC (Sep q []) := upC_sep)
  try any_goals (refine H_reg ?_)
  try any_goals ((refine Sq_buildS (d := 7) [] pI [] (e := 3) (by kernel_rfl) (by kernel_rfl) rfl rfl (by kernel_rfl) rfl rfl trivial rfl (fun v5 => ?_)))
  try any_goals (refine W_assign (d := 5) (sq_stepper upC_sep) rfl rfl rfl ?_)
  try any_goals ((refine Sq_nil ?_; try refine G_then ?_))
  try any_goals (refine H_seq ?_)
  try any_goals ((refine H_seq ?_; try refine H_reg ?_))
  try any_goals (refine W_assign (d := 6) (sq_stepper upC_sep) rfl rfl rfl ?_)
  try any_goals ((refine Sq_nil ?_; try refine G_then ?_))
  try any_goals (refine H_block ?_)
  try any_goals ((refine H_loop (σ := Nat × Value) (fun x => x.1 ≤ b.length) (fun x => [(0, .inl u0), (1, .inl u1), (5, .inl x.2), (6, .inl (.int .i64 x.1))]) (fun x => Sep q [.sl Int 3 pI (keptP b c x.1) x.2]) (fun x => b.length - x.1) (0, v5) (Nat.zero_le _) (fun a w' h => h.sub (by repeat (first | exact trivial | refine ⟨⟨_, rfl, fun _ _ _ h => h⟩, ?_⟩ | refine ⟨⟨_, rfl, fun v w _ h => (show v = _ from h).trans (congrArg (Value.int .i64) (by first | omega | (dsimp only; omega)))⟩, ?_⟩)) (fun w' h => h)) (fun x hi => ?_); obtain ⟨i, v5⟩ := x; simp only at hi))
  try any_goals (refine H_seq ?_)
  try any_goals ((refine H_seq ?_; try refine H_reg ?_))
  try any_goals (refine W_move (d := 8) (sq_stepper upC_sep) rfl rfl rfl ?_)
  try any_goals (refine W_moveR (d := 9) (sq_stepper upC_sep) (U := uS e1 pI b) (fun w' h => UR.lift (Sep.ext h) hr0) rfl rfl rfl ?_)
  try any_goals (refine W_len (d := 10) (sq_stepper upC_sep) (by kernel_rfl) rfl rfl rfl ?_)
  try any_goals (refine W_cmp (d := 11) (sq_stepper upC_sep) rfl rfl rfl rfl rfl ?_)
  try any_goals ((refine Sq_nil ?_; try refine G_then ?_))
  try any_goals ((refine H_cond _ rfl (fun hq => ?_) (fun hq => ?_) <;> (try simp only [hqs, reduceCtorEq] at hq)))
  try any_goals (refine H_skip ?_)
  try any_goals (refine H_exit ?_)
  repeat (any_goals (first | refine G_exit_then ?_ | refine G_exit_here ?_ | refine G_exit_far rfl ?_))
  try any_goals (refine G_then ?_)
  try any_goals (refine H_seq ?_)
  try any_goals (refine H_block ?_)
  try any_goals (first | (refine H_seq ?_; try refine H_reg ?_) | refine H_reg ?_)
  try any_goals (refine W_moveR (d := 14) (sq_stepper upC_sep) (U := uS e2 pI c) (fun w' h => UR.lift (Sep.ext h) hr1) rfl rfl rfl ?_)
  try any_goals (refine W_moveR (d := 15) (sq_stepper upC_sep) (U := uS e1 pI b) (fun w' h => UR.lift (Sep.ext h) hr0) rfl rfl rfl ?_)
  try any_goals (refine W_move (d := 16) (sq_stepper upC_sep) rfl rfl rfl ?_)
  try any_goals (refine W_index (d := 17) (sq_stepper upC_sep) (by kernel_rfl) rfl rfl rfl rfl (by first | omega | (dsimp only; omega)) ?_)
  try any_goals (refine W_loadI (d := 18) (sq_stepper upC_sep) (by kernel_rfl) rfl rfl rfl ?_)
  try any_goals (refine W_ct (d := 19) (sq_stepper upC_sep) (ct_l1Has _ _) rfl rfl rfl (by kernel_rfl) ?_)
  try any_goals (refine W_not (d := 20) (sq_stepper upC_sep) rfl rfl rfl ?_)
  try any_goals ((refine Sq_nil ?_; try refine G_then ?_))
  try any_goals ((refine H_cond _ rfl (fun hq => ?_) (fun hq => ?_) <;> (try simp only [hqs, reduceCtorEq] at hq)))
  try any_goals (refine H_reg ?_)
  try any_goals (refine W_move (d := 21) (sq_stepper upC_sep) rfl rfl rfl ?_)
  try any_goals (refine W_moveR (d := 22) (sq_stepper upC_sep) (U := uS e1 pI b) (fun w' h => UR.lift (Sep.ext h) hr0) rfl rfl rfl ?_)
  try any_goals (refine W_move (d := 23) (sq_stepper upC_sep) rfl rfl rfl ?_)
  try any_goals (refine W_index (d := 24) (sq_stepper upC_sep) (by kernel_rfl) rfl rfl rfl rfl (by first | omega | (dsimp only; omega)) ?_)
  try any_goals (refine W_loadI (d := 25) (sq_stepper upC_sep) (by kernel_rfl) rfl rfl rfl ?_)
  try any_goals (refine W_buildS (d := 26) (sq_stepper upC_sep) [(Operand.tmp 25)] pI [_] (e := 3) (by kernel_rfl) (by kernel_rfl) rfl rfl (by kernel_rfl) rfl rfl rfl ⟨elem_I, trivial⟩ ?_)
  try any_goals (refine Sq_appS (d := 27) 0 (Ψ := pI) rfl ⟨trivial, trivial⟩ (by kernel_rfl) (by kernel_rfl) rfl rfl rfl ⟨by have := hkl i; simp only [List.length_cons, List.length_nil]; omega, by simp⟩ (fun va => ?_))
  try any_goals (refine W_assign (d := 5) (sq_stepper upC_sep) rfl rfl rfl ?_)
  try any_goals (refine Sq_nil ?_)
  try any_goals (refine H_skip ?_)
  repeat (any_goals (first | refine G_exit_then ?_ | refine G_exit_here ?_ | refine G_exit_far rfl ?_ | refine G_normal_block ?_))
  try any_goals (refine G_then ?_)
  try any_goals (refine H_reg ?_)
  try any_goals (refine W_move (d := 12) (sq_stepper upC_sep) rfl rfl rfl ?_)
  try any_goals (refine W_ar (d := 13) (sq_stepper upC_sep) rfl rfl rfl rfl rfl (by first | omega | (dsimp only; omega)) ?_)
  try any_goals (refine W_assign (d := 6) (sq_stepper upC_sep) rfl rfl rfl ?_)
  try any_goals (refine Sq_nil ?_)
  try any_goals (first | refine G_again (i + 1, va) (by simp only; omega) (by simp only; omega) (by repeat (first | exact trivial | refine ⟨⟨_, rfl, fun _ _ _ h => h⟩, ?_⟩ | refine ⟨⟨_, rfl, fun v w _ h => (show v = _ from h).trans (congrArg (Value.int .i64) (by first | omega | (dsimp only; omega)))⟩, ?_⟩)) (fun w' h => ?_) | refine G_again (i + 1, v5) (by simp only; omega) (by simp only; omega) (by repeat (first | exact trivial | refine ⟨⟨_, rfl, fun _ _ _ h => h⟩, ?_⟩ | refine ⟨⟨_, rfl, fun v w _ h => (show v = _ from h).trans (congrArg (Value.int .i64) (by first | omega | (dsimp only; omega)))⟩, ?_⟩)) (fun w' h => ?_))
  repeat (any_goals (first | refine G_exit_then ?_ | refine G_exit_here ?_ | refine G_exit_far rfl ?_ | refine G_normal_block ?_))
  try any_goals (refine W_move (d := 28) (sq_stepper upC_sep) rfl rfl rfl ?_)
  try any_goals (refine W_assign (d := 4) (sq_stepper upC_sep) rfl rfl rfl ?_)
  try any_goals ((refine Sq_nil ?_; try refine G_then ?_))
  try any_goals (refine H_ret ?_)
  repeat (any_goals (first | refine G_ret_then ?_ | refine G_ret_block ?_))
  all_goals (try dsimp only)
  all_goals first
    | (rw [keptP_y (by omega) (by assumption)]; exact h)
    | (rw [keptP_n (by omega) (by assumption)]; exact h)
    | (exact R1 rfl (fun _ h => hE.trans h.ext) rfl (fun v w' hc hv => by rw [show v = _ from hv, ← keptP_all (b := b) (c := c) (k := i) (by omega)]; exact hc.isS (m := 0) rfl))
    | trace_state
theorem ct_l19Follows {e : Option TypeId} (t : Tab) (f : Flt) (l : List Int) (hn : (l.length : Int) ≤ 1048576) (hv : tabB t = true) (hf : fltB t.N.S.length f = true) (hl : ∀ k : Nat, (k : Int) < l.length → 0 ≤ fndT t (ix l k)) : CT Tryz.prog 54 [.inr (uA bTab t), .inr (uA bFlt f), .inr (uS e pI l)] (.inl (.bool (posL t f l))) := by
  have hpk : ∀ k : Nat, 0 < (k : Int) → (k : Int) < l.length → 0 ≤ fndT t (ix l ((k : Int) - 1)) := fun k h0 h1 => by
    have := hl (k - 1) (by omega)
    rwa [show ((k - 1 : Nat) : Int) = (k : Int) - 1 by omega] at this
  refine CT_of Tryz.func54 rfl rfl rfl (fun w => ?_)
  have hC := upC_ext w
  try any_goals ((refine H_seq ?_; try refine H_reg ?_))
  try any_goals (refine W_boxA (d := 3) (sq_stepper hC) rfl rfl rfl ?_)
  try any_goals (refine W_boxA (d := 4) (sq_stepper hC) rfl rfl rfl ?_)
  try any_goals (refine W_assign (d := 6) (sq_stepper hC) rfl rfl rfl ?_)
  try any_goals ((refine Sq_nil ?_; try refine G_then ?_))
  try any_goals (refine H_seq ?_)
  try any_goals ((refine H_seq ?_; try refine H_reg ?_))
  try any_goals (refine W_assign (d := 7) (sq_stepper hC) rfl rfl rfl ?_)
  try any_goals ((refine Sq_nil ?_; try refine G_then ?_))
  try any_goals (refine H_block ?_)
  try any_goals ((refine H_loop (fun k : Nat => (1 ≤ k ∧ (k ≤ l.length ∨ k = 1)) ∧ ∀ j, j < k → posK t f l j = true) (fun k => [(3, .inr (uP bTab t)), (4, .inr (uP bFlt f)), (2, .inr (uS e pI l)), (7, .inl (.int .i64 k))]) (fun _ => Ext w) (fun k => l.length + 1 - k) 1 ⟨by omega, fun j hj => by obtain rfl : j = 0 := (by omega); rfl⟩ (fun a w h => h.sub (by repeat (first | exact trivial | refine ⟨⟨_, rfl, fun _ _ _ h => h⟩, ?_⟩ | refine ⟨⟨_, rfl, fun v w _ h => (show v = _ from h).trans (congrArg (Value.int .i64) (by first | omega | (dsimp only; omega)))⟩, ?_⟩)) fun _ h => h) (fun k hk => ?_); obtain ⟨hk, hall⟩ := hk))
  try any_goals (refine H_seq ?_)
  try any_goals ((refine H_seq ?_; try refine H_reg ?_))
  try any_goals (refine W_move (d := 8) (sq_stepper hC) rfl rfl rfl ?_)
  try any_goals (refine W_move (d := 9) (sq_stepper hC) rfl rfl rfl ?_)
  try any_goals (refine W_len (d := 10) (sq_stepper hC) (by kernel_rfl) rfl rfl rfl ?_)
  try any_goals (refine W_cmp (d := 11) (sq_stepper hC) rfl rfl rfl rfl rfl ?_)
  try any_goals ((refine Sq_nil ?_; try refine G_then ?_))
  try any_goals ((refine H_cond _ rfl (fun hq => ?_) (fun hq => ?_) <;> (try simp only [hqs, reduceCtorEq] at hq)))
  try any_goals (refine H_skip ?_)
  try any_goals (refine H_exit ?_)
  repeat (any_goals (first | refine G_exit_then ?_ | refine G_exit_here ?_ | refine G_exit_far rfl ?_))
  try any_goals (refine G_then ?_)
  try any_goals (refine H_seq ?_)
  try any_goals (refine H_block ?_)
  try any_goals (refine H_seq ?_)
  try any_goals (refine H_draw' (by kernel_rfl) hC ?_)
  try any_goals (refine W_loadA (d := 14) wk_stepper (by kernel_rfl) rfl rfl rfl ?_)
  try any_goals (refine W_loadA (d := 15) wk_stepper (by kernel_rfl) rfl rfl rfl ?_)
  try any_goals (refine W_loadA (d := 16) wk_stepper (by kernel_rfl) rfl rfl rfl ?_)
  try any_goals (refine W_move (d := 17) wk_stepper rfl rfl rfl ?_)
  try any_goals (refine W_move (d := 18) wk_stepper rfl rfl rfl ?_)
  try any_goals (refine W_ar (d := 19) wk_stepper rfl rfl rfl rfl rfl (by first | omega | (dsimp only; omega)) ?_)
  try any_goals (refine W_index (d := 20) wk_stepper (by kernel_rfl) rfl rfl rfl rfl (by first | omega | (dsimp only; omega)) ?_)
  try any_goals (refine W_loadI (d := 21) wk_stepper (by kernel_rfl) rfl rfl rfl ?_)
  try any_goals (refine W_ct (d := 22) wk_stepper (ct_l5Find _ _) rfl rfl rfl (by kernel_rfl) ?_)
  try any_goals (refine W_loadA (d := 23) wk_stepper (by kernel_rfl) rfl rfl rfl ?_)
  try any_goals (refine W_move (d := 24) wk_stepper rfl rfl rfl ?_)
  try any_goals (refine W_move (d := 25) wk_stepper rfl rfl rfl ?_)
  try any_goals (refine W_index (d := 26) wk_stepper (by kernel_rfl) rfl rfl rfl rfl (by first | omega | (dsimp only; omega)) ?_)
  try any_goals (refine W_loadI (d := 27) wk_stepper (by kernel_rfl) rfl rfl rfl ?_)
  try any_goals (refine W_ct (d := 28) wk_stepper (ct_l5Find _ _) rfl rfl rfl (by kernel_rfl) ?_)
  try any_goals (refine W_ct (d := 29) wk_stepper (ct_l11Follows2 _ _ _ _ hv hf ⟨hpk k (by omega) (by omega), fndT_bd.2⟩ ⟨hl k (by omega), fndT_bd.2⟩) rfl rfl rfl (by kernel_rfl) ?_)
  try any_goals (refine W_not (d := 30) wk_stepper rfl rfl rfl ?_)
  try any_goals (refine Wk_end (by kernel_rfl) (by kernel_rfl) ?_)
  try any_goals (refine G_then ?_)
  try any_goals ((refine H_cond _ rfl (fun hq => ?_) (fun hq => ?_) <;> (try simp only [hqs, reduceCtorEq] at hq)))
  try any_goals (first | (refine H_seq ?_; try refine H_reg ?_) | refine H_reg ?_)
  try any_goals (refine W_assign (d := 6) (sq_stepper hC) rfl rfl rfl ?_)
  try any_goals ((refine Sq_nil ?_; try refine G_then ?_))
  try any_goals (refine H_ret ?_)
  repeat (any_goals (first | refine G_ret_then ?_ | refine G_ret_block ?_))
  try any_goals (refine H_skip ?_)
  repeat (any_goals (first | refine G_exit_then ?_ | refine G_exit_here ?_ | refine G_exit_far rfl ?_ | refine G_normal_block ?_))
  try any_goals (refine G_then ?_)
  try any_goals (refine H_reg ?_)
  try any_goals (refine W_move (d := 12) (sq_stepper hC) rfl rfl rfl ?_)
  try any_goals (refine W_ar (d := 13) (sq_stepper hC) rfl rfl rfl rfl rfl (by first | omega | (dsimp only; omega)) ?_)
  try any_goals (refine W_assign (d := 7) (sq_stepper hC) rfl rfl rfl ?_)
  try any_goals (refine Sq_nil ?_)
  try any_goals (refine G_again (k + 1) ⟨by omega, ?_⟩ (by omega) (by repeat (first | exact trivial | refine ⟨⟨_, rfl, fun _ _ _ h => h⟩, ?_⟩ | refine ⟨⟨_, rfl, fun v w _ h => (show v = _ from h).trans (congrArg (Value.int .i64) (by first | omega | (dsimp only; omega)))⟩, ?_⟩)) (fun _ h => h))
  repeat (any_goals (first | refine G_exit_then ?_ | refine G_exit_here ?_ | refine G_exit_far rfl ?_ | refine G_normal_block ?_))
  repeat (any_goals (first | refine G_ret_then ?_ | refine G_ret_block ?_))
  all_goals first
    | exact alln_step hall (by unfold posK; rw [hq]; simp)
    | exact R1v rfl (fun _ h => h) rfl (congrArg Value.bool (allN_f (i := k) (by omega) (by unfold posK; rw [hq, decide_eq_false (by omega)]; rfl)).symm)
    | exact R1v rfl (fun _ h => h) rfl (congrArg Value.bool (allN_y (by omega) hall).symm)
    | trace_state
/-- What is known of valid blocks. -/
structure BlV (t : Tab) (f : Flt) (B : List (List Int)) : Prop where
  hv : tabB t = true
  hf : fltB t.N.S.length f = true
  ids : ∀ i k : Nat, (i : Int) < B.length → (k : Int) < (ix B i).length → 0 ≤ fndT t (ix (ix B i) k)
  flat : (B.flatten.length : Int) ≤ 12
  row : ∀ i : Nat, (i : Int) < B.length → ((ix B i).length : Int) ≤ 12
  len : (B.length : Int) ≤ 12
theorem flat_row0 : ∀ {B : List (List Int)} {i : Nat} (hi : i < B.length), B[i].length ≤ B.flatten.length
  | [], _, hi => by simp at hi
  | b :: B, 0, _ => by simp
  | b :: B, i + 1, hi => by
    have := flat_row0 (B := B) (i := i) (by simpa using hi)
    simp only [List.getElem_cons_succ, List.flatten_cons, List.length_append]
    omega
theorem flat_row {B : List (List Int)} {i : Nat} (hi : (i : Int) < B.length) : (ix B i).length ≤ B.flatten.length := by
  rw [ix_elem (show i < B.length by omega)]
  exact flat_row0 _
theorem flat_len {B : List (List Int)} (h : ∀ b ∈ B, 0 < b.length) : B.length ≤ B.flatten.length := by
  induction B with
  | nil => simp
  | cons b B ih =>
    have h1 := ih fun x hx => h x (List.mem_cons_of_mem _ hx)
    have h2 := h b (List.mem_cons_self ..)
    rw [List.length_cons, List.flatten_cons, List.length_append]
    omega
theorem BlV.of {t : Tab} {f : Flt} {B : List (List Int)} (h : (runOk t f && blkB t f B) = true) : BlV t f B := by
  rw [Bool.and_eq_true] at h
  have hr := runOk_t h.1
  have h1 := blkB_n h.2
  have h2 := (tabB_k hr.1).2.1
  have hl := flat_len (B := B) fun b hb => by
    obtain ⟨i, hi, e⟩ := List.mem_iff_getElem.1 hb
    have := (blkB_k h.2 (i := i) (by omega)).1
    rw [ix_elem hi, e] at this
    omega
  exact ⟨hr.1, hr.2, fun i k hi hk => (idOk_k ((blkB_k h.2 hi).2 k hk)).1, by omega, fun i hi => by have := flat_row hi; omega, by omega⟩
theorem BlV.kept {t : Tab} {f : Flt} {B : List (List Int)} (h : BlV t f B) {c : List Int} {i : Nat} (hi : (i : Int) < B.length) : ∀ k : Nat, (k : Int) < (keptL (ix B i) c).length → 0 ≤ fndT t (ix (keptL (ix B i) c) k) := fun k hk => by
  have := keptA_ids (c := c) h.ids i k (by rw [keptA_len]; exact hi)
  rw [keptA_at hi] at this
  exact this hk
theorem BlV.keptPr {t : Tab} {f : Flt} {B : List (List Int)} (h : BlV t f B) {c : List Int} {i : Nat} (hi : (i : Int) < B.length) {k : Nat} (h0 : 0 < (k : Int)) (hk : (k : Int) < (keptL (ix B i) c).length) : 0 ≤ fndT t (ix (keptL (ix B i) c) ((k : Int) - 1)) := by
  have := h.kept (c := c) hi (k - 1) (by omega)
  rwa [show ((k - 1 : Nat) : Int) = (k : Int) - 1 by omega] at this
theorem BlV.keptLen {t : Tab} {f : Flt} {B : List (List Int)} (h : BlV t f B) {c : List Int} {i : Nat} (hi : (i : Int) < B.length) : ((keptL (ix B i) c).length : Int) ≤ 12 := by
  have h1 := h.row i hi
  have h2 := keptL_len (b := ix B i) (c := c)
  omega
/-! The program's kept blocks: rows of its own. -/
abbrev kpC (B : List (List Int)) (c : List Int) (vs : List Value) (v : Value) (i : Nat) : List Osl := .sl Value 37 pV (vs ++ List.replicate (B.length - i) (Value.slice none 0 0)) v :: rowsZ ((keptA B c).take i) vs
abbrev kpD (B : List (List Int)) (c : List Int) (vs : List Value) (v va : Value) (i k : Nat) : List Osl := .sl Int 3 pI (keptP (ix B i) c k) va :: .sl Value 37 pV ((vs ++ List.replicate (B.length - i) (Value.slice none 0 0)).set i va) v :: rowsZ ((keptA B c).take i) vs
theorem cx_keptBlocks {e1 e2 e3 : Option TypeId} (B : List (List Int)) (c : List Int) (hl : (B.length : Int) ≤ 1048576) (hr : ∀ i : Nat, (i : Int) < B.length → ((ix B i).length : Int) ≤ 1048576) (w : World) : CTX Tryz.prog 67 (fun w1 => w1 = w) [.inr (uS e1 (pS e2 pI) B), .inr (uS e3 pI c)]
    (fun y w' => Sep w (.sl Value 37 pV y.2 y.1 :: rowsZ (keptA B c) y.2) w' ∧ y.2.length = B.length) (fun y : Value × List Value => .inl y.1) := by
  have hkl := fun i k => keptP_le (b := ix B i) (c := c) (k := k)
  refine CTX_of Tryz.func67 rfl rfl rfl ?_
  refine H_weakenC (C' := Ext w) (fun w1 h => by subst h; exact Ext.refl _) ?_
  have hC := upC_ext w
  try any_goals ((refine H_seq ?_; try refine H_reg ?_))
  try any_goals (refine W_assign (d := 4) (sq_stepper hC) rfl rfl rfl ?_)
  try any_goals ((refine Sq_nil ?_; try refine G_then ?_))
  try any_goals (refine H_seq ?_)
  try any_goals (have hE : Ext _ _ := Ext.refl w)
  try any_goals (refine H_open 0 rfl (fun q u0 hw hr0 => ?_); have hE := hE.trans hw)
  try any_goals (refine H_open 1 rfl (fun q u1 hw hr1 => ?_); have hE := hE.trans hw; have hr0 := UR.lift hw hr0)
  try any_goals (refine H_weakenC (C' := Sep q []) (fun w' h => sep_start h) ?_; have hC : UpC (Sep q []) := upC_sep)
  try any_goals (obtain ⟨us, hul, hus, hrow⟩ := isS_vals hr0)
  try any_goals (refine H_reg ?_)
  try any_goals (refine W_moveR (d := 10) (sq_stepper upC_sep) (U := uS e1 (pS e2 pI) B) (fun w' h => UR.lift (Sep.ext h) hr0) rfl rfl rfl ?_)
  try any_goals (refine W_len (d := 11) (sq_stepper upC_sep) (by kernel_rfl) rfl rfl rfl ?_)
  try any_goals (refine Sq_makeS (d := 12) (e := 37) pV (.slice none 0 0) [.slice none 0 0] (by kernel_rfl) (by kernel_rfl) (by kernel_rfl) (fun _ => ⟨rfl, rfl⟩) rfl rfl rfl ⟨by omega, by omega⟩ (fun v5 => ?_))
  try any_goals (refine W_assign (d := 5) (sq_stepper upC_sep) rfl rfl rfl ?_)
  try any_goals ((refine Sq_nil ?_; try refine G_then ?_))
  try any_goals (refine H_seq ?_)
  try any_goals ((refine H_seq ?_; try refine H_reg ?_))
  try any_goals (refine W_move (d := 13) (sq_stepper upC_sep) rfl rfl rfl ?_)
  try any_goals (refine W_lenR (d := 14) (sq_stepper upC_sep) (xs := B) (fun w' h => UR.lift (Sep.ext h) hr0) (by kernel_rfl) rfl rfl rfl ?_)
  try any_goals (refine W_move (d := 15) (sq_stepper upC_sep) rfl rfl rfl ?_)
  try any_goals ((refine Sq_nil ?_; try refine G_then ?_))
  try any_goals (refine H_block ?_)
  try any_goals ((refine H_loop (σ := Nat × List Value) (fun x => x.1 ≤ B.length ∧ x.2.length = x.1) (fun x => [(0, .inl u0), (1, .inl u1), (5, .inl v5), (13, .inl u0), (14, .inl (.int .i64 B.length)), (15, .inl (.int .i64 x.1))]) (fun x => Sep q (kpC B c x.2 v5 x.1)) (fun x => B.length - x.1) (0, []) ⟨Nat.zero_le _, rfl⟩ (fun a w' h => h.sub (by repeat (first | exact trivial | refine ⟨⟨_, rfl, fun _ _ _ h => h⟩, ?_⟩ | refine ⟨⟨_, rfl, fun v w _ h => (show v = _ from h).trans (congrArg (Value.int .i64) (by first | omega | (dsimp only; omega)))⟩, ?_⟩)) (fun w' h => by simpa [kpC, rowsZ] using h)) (fun x hx => ?_); obtain ⟨i, vs⟩ := x; obtain ⟨hi, hvl⟩ := hx; simp only at hi hvl))
  try any_goals ((refine H_seq ?_; try refine H_reg ?_))
  try any_goals (refine W_cmp (d := 16) (sq_stepper upC_sep) rfl rfl rfl rfl rfl ?_)
  try any_goals ((refine Sq_nil ?_; try refine G_then ?_))
  try any_goals (refine H_seq ?_)
  try any_goals ((refine H_cond _ rfl (fun hq => ?_) (fun hq => Wt.un 0 ?_) <;> (try simp only [hqs, reduceCtorEq] at hq)))
  try any_goals (refine H_skip ?_)
  try any_goals (refine G_hold 1 ?_)
  try any_goals (refine Wt.out 0 ?_)
  try any_goals (refine H_exit ?_)
  repeat (any_goals (first | refine G_exit_then ?_ | refine G_exit_here ?_ | refine G_exit_far rfl ?_))
  try any_goals (refine G_hold 2 ?_)
  try any_goals (refine Wt.out 1 ?_)
  try any_goals (refine G_then ?_)
  try any_goals (refine H_seq ?_)
  try any_goals (refine H_block ?_)
  try any_goals ((refine H_seq ?_; try refine H_reg ?_))
  try any_goals (refine W_move (d := 17) (sq_stepper upC_sep) rfl rfl rfl ?_)
  try any_goals (refine W_indexR (d := 18) (sq_stepper upC_sep) (Φ := pV) (xs := us) (fun w' h => IsS.up (Sep.ext h) hus) (by kernel_rfl) rfl rfl rfl rfl ⟨by omega, by omega⟩ ?_)
  try any_goals (refine W_loadV (d := 19) (sq_stepper upC_sep) (by kernel_rfl) rfl rfl rfl ?_)
  try any_goals (refine W_assign (d := 6) (sq_stepper upC_sep) rfl rfl rfl ?_)
  try any_goals (refine W_assign (d := 7) (sq_stepper upC_sep) rfl rfl rfl ?_)
  try any_goals ((refine Sq_nil ?_; try refine G_then ?_))
  try any_goals ((refine H_seq ?_; try refine H_reg ?_))
  try any_goals (refine W_move (d := 20) (sq_stepper upC_sep) rfl rfl rfl ?_)
  try any_goals (refine W_lenR (d := 21) (sq_stepper upC_sep) (xs := ix B i) (fun w' h => IsS.up (Sep.ext h) (hrow i (by omega))) (by kernel_rfl) rfl rfl rfl ?_)
  try any_goals (refine W_move (d := 22) (sq_stepper upC_sep) rfl rfl rfl ?_)
  try any_goals ((refine Sq_nil ?_; try refine G_then ?_))
  try any_goals (refine H_block ?_)
  try any_goals ((refine H_loop (σ := Nat × Value) (fun x => x.1 ≤ (ix B i).length) (fun x => [(0, .inl u0), (1, .inl u1), (5, .inl v5), (6, .inl (.int .i64 i)), (13, .inl u0), (14, .inl (.int .i64 B.length)), (15, .inl (.int .i64 i)), (20, .inl (ix us i)), (21, .inl (.int .i64 (ix B i).length)), (22, .inl (.int .i64 x.1))]) (fun x => Sep q (kpD B c vs v5 x.2 i x.1)) (fun x => (ix B i).length - x.1) (0, .slice none 0 0) (Nat.zero_le _) (fun a w' h => h.sub (by repeat (first | exact trivial | refine ⟨⟨_, rfl, fun _ _ _ h => h⟩, ?_⟩ | refine ⟨⟨_, rfl, fun v w _ h => (show v = _ from h).trans (congrArg (Value.int .i64) (by first | omega | (dsimp only; omega)))⟩, ?_⟩)) (fun w' h => by show Sep q (.sl Int _ pI [] (Value.slice none 0 0) :: _) w'; rw [set_fill0 hvl (by omega)]; exact Sep.emp Int _ pI h)) (fun x hk => ?_); obtain ⟨k, va⟩ := x; simp only at hk; have hri := hr i (by omega)))
  try any_goals ((refine H_seq ?_; try refine H_reg ?_))
  try any_goals (refine W_cmp (d := 23) (sq_stepper upC_sep) rfl rfl rfl rfl rfl ?_)
  try any_goals ((refine Sq_nil ?_; try refine G_then ?_))
  try any_goals (refine H_seq ?_)
  try any_goals ((refine H_cond _ rfl (fun hq => ?_) (fun hq => Wt.un 3 ?_) <;> (try simp only [hqs, reduceCtorEq] at hq)))
  try any_goals (refine H_skip ?_)
  try any_goals (refine G_hold 4 ?_)
  try any_goals (refine Wt.out 3 ?_)
  try any_goals (refine H_exit ?_)
  repeat (any_goals (first | refine G_exit_then ?_ | refine G_exit_here ?_ | refine G_exit_far rfl ?_))
  try any_goals (refine Wt.out 4 ?_)
  try any_goals (refine G_then ?_)
  try any_goals (refine H_seq ?_)
  try any_goals (refine H_block ?_)
  try any_goals (first | (refine H_seq ?_; try refine H_reg ?_) | refine H_reg ?_)
  try any_goals (refine W_indexR (d := 24) (sq_stepper upC_sep) (xs := ix B i) (fun w' h => IsS.up (Sep.ext h) (hrow i (by omega))) (by kernel_rfl) rfl rfl rfl rfl ⟨by first | omega | (dsimp only; omega), by first | omega | (dsimp only; omega)⟩ ?_)
  try any_goals (refine W_loadI (d := 25) (sq_stepper upC_sep) (by kernel_rfl) rfl rfl rfl ?_)
  try any_goals (refine W_assign (d := 9) (sq_stepper upC_sep) rfl rfl rfl ?_)
  try any_goals ((refine Sq_nil ?_; try refine G_then ?_))
  try any_goals ((refine H_seq ?_; try refine H_reg ?_))
  try any_goals (refine W_moveR (d := 26) (sq_stepper upC_sep) (U := uS e3 pI c) (fun w' h => UR.lift (Sep.ext h) hr1) rfl rfl rfl ?_)
  try any_goals (refine W_move (d := 27) (sq_stepper upC_sep) rfl rfl rfl ?_)
  try any_goals (refine W_ct (d := 28) (sq_stepper upC_sep) (ct_Contains _ _) rfl rfl rfl (by kernel_rfl) ?_)
  try any_goals (refine W_not (d := 29) (sq_stepper upC_sep) rfl rfl rfl ?_)
  try any_goals ((refine Sq_nil ?_; try refine G_then ?_))
  try any_goals ((refine H_cond _ rfl (fun hq => ?_) (fun hq => Wt.un 6 ?_) <;> (try simp only [hqs, reduceCtorEq] at hq)))
  try any_goals (refine H_reg ?_)
  try any_goals (refine W_move (d := 30) (sq_stepper upC_sep) rfl rfl rfl ?_)
  try any_goals (refine W_move (d := 31) (sq_stepper upC_sep) rfl rfl rfl ?_)
  try any_goals (refine W_move (d := 32) (sq_stepper upC_sep) rfl rfl rfl ?_)
  try any_goals (refine W_move (d := 33) (sq_stepper upC_sep) rfl rfl rfl ?_)
  try any_goals (refine W_idxS1 (d := 34) 1 (sq_stepper upC_sep) rfl rfl (by kernel_rfl) rfl rfl rfl rfl ⟨by omega, by rw [List.length_set, List.length_append, List.length_replicate]; omega⟩ ?_)
  try any_goals ((refine W_loadSV (d := 35) 1 (sq_stepper upC_sep) rfl ⟨by omega, by rw [List.length_set, List.length_append, List.length_replicate]; omega⟩ (by kernel_rfl) rfl rfl rfl ?_; rw [ix_setV (by rw [List.length_append, List.length_replicate]; omega)]))
  try any_goals (refine W_move (d := 36) (sq_stepper upC_sep) rfl rfl rfl ?_)
  try any_goals (refine W_buildS (d := 37) (sq_stepper upC_sep) [(Operand.tmp 36)] pI [_] (e := 3) (by kernel_rfl) (by kernel_rfl) rfl rfl (by kernel_rfl) rfl rfl rfl ⟨elem_I, trivial⟩ ?_)
  try any_goals (refine Sq_appS (d := 38) 0 (Ψ := pI) rfl ⟨trivial, trivial, avAll_rows⟩ (by kernel_rfl) (by kernel_rfl) rfl rfl rfl ⟨by have := hkl i k; have := hr i (by omega); simp only [List.length_cons, List.length_nil]; omega, by simp⟩ (fun vb => ?_))
  try any_goals (refine W_idxS1 (d := 39) 1 (sq_stepper upC_sep) rfl rfl (by kernel_rfl) rfl rfl rfl rfl ⟨by omega, by rw [List.length_set, List.length_append, List.length_replicate]; omega⟩ ?_)
  try any_goals ((refine Sq_slV 0 rfl (fun hvb => ?_); refine Sq_storeSV 1 rfl ⟨trivial, trivial, avAll_rows⟩ ⟨by omega, by rw [List.length_set, List.length_append, List.length_replicate]; omega⟩ (by kernel_rfl) hvb rfl rfl ?_))
  try any_goals (refine Sq_nil ?_)
  try any_goals (refine Wt.out 6 ?_)
  try any_goals (refine H_skip ?_)
  repeat (any_goals (first | refine G_exit_then ?_ | refine G_exit_here ?_ | refine G_exit_far rfl ?_ | refine G_normal_block ?_))
  try any_goals (refine G_then ?_)
  try any_goals (refine H_reg ?_)
  try any_goals (refine W_ar (d := 40) (sq_stepper upC_sep) rfl rfl rfl rfl rfl (by first | omega | (dsimp only; omega)) ?_)
  try any_goals (refine W_move (d := 22) (sq_stepper upC_sep) rfl rfl rfl ?_)
  try any_goals (refine Sq_nil ?_)
  try any_goals (first | refine G_again (k + 1, vb) (by simp only; omega) (by simp only; omega) (by repeat (first | exact trivial | refine ⟨⟨_, rfl, fun _ _ _ h => h⟩, ?_⟩ | refine ⟨⟨_, rfl, fun v w _ h => (show v = _ from h).trans (congrArg (Value.int .i64) (by first | omega | (dsimp only; omega)))⟩, ?_⟩)) (fun w' h => ?_) | refine G_again (k + 1, va) (by simp only; omega) (by simp only; omega) (by repeat (first | exact trivial | refine ⟨⟨_, rfl, fun _ _ _ h => h⟩, ?_⟩ | refine ⟨⟨_, rfl, fun v w _ h => (show v = _ from h).trans (congrArg (Value.int .i64) (by first | omega | (dsimp only; omega)))⟩, ?_⟩)) (fun w' h => ?_))
  repeat (any_goals (first | refine G_exit_then ?_ | refine G_exit_here ?_ | refine G_exit_far rfl ?_ | refine G_normal_block ?_))
  repeat (any_goals (first | refine G_exit_then ?_ | refine G_exit_here ?_ | refine G_exit_far rfl ?_ | refine G_normal_block ?_))
  try any_goals (refine W_ar (d := 41) (sq_stepper upC_sep) rfl rfl rfl rfl rfl (by first | omega | (dsimp only; omega)) ?_)
  try any_goals (refine W_move (d := 15) (sq_stepper upC_sep) rfl rfl rfl ?_)
  try any_goals (refine Sq_nil ?_)
  try any_goals (refine G_again (i + 1, vs ++ [va]) ⟨by simp only; omega, by simp only [List.length_append, List.length_cons, List.length_nil]; omega⟩ (by simp only; omega) (by repeat (first | exact trivial | refine ⟨⟨_, rfl, fun _ _ _ h => h⟩, ?_⟩ | refine ⟨⟨_, rfl, fun v w _ h => (show v = _ from h).trans (congrArg (Value.int .i64) (by first | omega | (dsimp only; omega)))⟩, ?_⟩)) (fun w' h => ?_))
  try any_goals (refine Wt.out 2 ?_)
  repeat (any_goals (first | refine G_exit_then ?_ | refine G_exit_here ?_ | refine G_exit_far rfl ?_ | refine G_normal_block ?_))
  try any_goals (refine G_then ?_)
  try any_goals ((refine H_seq ?_; try refine H_reg ?_))
  try any_goals (refine W_move (d := 42) (sq_stepper upC_sep) rfl rfl rfl ?_)
  try any_goals (refine W_assign (d := 4) (sq_stepper upC_sep) rfl rfl rfl ?_)
  try any_goals ((refine Sq_nil ?_; try refine G_then ?_))
  try any_goals (refine H_ret ?_)
  repeat (any_goals (first | refine G_ret_then ?_ | refine G_ret_block ?_))
  all_goals (try dsimp only)
  all_goals first
    | (have e := keptP_y (b := ix B i) (c := c) (k := k) (by omega) (by assumption)
       simp only [kpD, List.set_cons_zero, List.set_cons_succ, Int.toNat_natCast, List.set_set] at h ⊢
       rw [e]; exact h)
    | (have e := keptP_n (b := ix B i) (c := c) (k := k) (by omega) (by assumption)
       simp only [kpD] at h ⊢
       rw [e]; exact h)
    | (simp only [kpD] at h
       rw [keptP_all (by omega), set_fillK hvl (by omega)] at h
       have h2 := h.perm (L' := .sl Value _ pV ((vs ++ [va]) ++ List.replicate (B.length - (i + 1)) (Value.slice none 0 0)) v5 :: (rowsZ ((keptA B c).take i) vs ++ [.sl Int _ pI (keptL (ix B i) c) va])) (by
         refine (List.Perm.swap _ _ _).trans (List.Perm.cons _ ?_)
         exact (List.perm_append_singleton _ _).symm)
       rw [← rowsZ_snoc (by rw [List.length_take, keptA_len]; omega), ← keptA_take (by omega)] at h2
       exact h2)
    | (obtain rfl : i = B.length := (by omega)
       refine RX1 rfl rfl (fun v w' hc hv => ⟨(v5, vs), ⟨?_, hvl⟩, hv⟩)
       simp only [kpC, Nat.sub_self, List.replicate_zero, List.append_nil] at hc
       rw [List.take_of_length_le (by rw [keptA_len]; omega)] at hc
       exact Sep.low hE hc)
    | trace_state
end Go.Proofs.YtanlaggnhocjhaaGreat
