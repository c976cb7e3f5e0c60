/- Choices of cancelled trips: their delays, costs, savings, the delay of passengers; both ways. -/
import Derived.Test.YtanlaggnhocjhaaGreatChdW
namespace Go.Proofs.YtanlaggnhocjhaaGreat
set_option linter.unusedSimpArgs false
set_option linter.unusedVariables false
open Go.RowKit Go.ChangeShapes Go.WideShapes Go.ChangeAt Go.Deep
theorem inB_yes {x a b : Int} (h : a ≤ x ∧ x ≤ b) : inB x a b = true := by rw [inB_t]; exact h
theorem inB_no {x a b : Int} (h : x < a ∨ b < x) : inB x a b = false := by rw [inB_f]; exact h
theorem latB_bl {t : Tab} {f : Flt} {B : List (List Int)} {xs : List Dly} (h : latB t f B xs = true) : BlV t f B := by
  rw [latB, Bool.and_eq_true] at h
  exact BlV.of h.1
theorem latB_mn {t : Tab} {f : Flt} {B : List (List Int)} {xs : List Dly} (h : latB t f B xs = true) : MinOk xs := (latB_k h).hm
theorem cdL_db {t : Tab} {f : Flt} {B : List (List Int)} {xs : List Dly} {c : List Int} (h : BlV t f B) (hm : MinOk xs) : DB t (delR t f (keptA B c) xs) 12 := (BkK.kept h hm c).all
theorem coK_y {t : Tab} {r : List Int} {p : Int} {i : Nat} (h : ix r i < 0) : coK t r p i = p * ((trLin t i).S.length : Int) := by rw [coK, if_pos h]
theorem coK_n {t : Tab} {r : List Int} {p : Int} {i : Nat} (h : 0 ≤ ix r i) : coK t r p i = ix r i * ((trLin t i).S.length : Int) := by rw [coK, if_neg (by omega)]
theorem ct_choiceDelays {e1 e2 e3 e4 : Option TypeId} (t : Tab) (f : Flt) (B : List (List Int)) (xs : List Dly) (c : List Int) (hk : BlV t f B) (hm : MinOk xs) (hc0 : canB t c = true) : CT Tryz.prog 70 [.inr (uA bTab t), .inr (uA bFlt f), .inr (uS e1 (pS e2 pI) B), .inr (uS e3 pDly xs), .inr (uS e4 pI c)] (.inr (uS (some 3) pI (cdL t f B xs c))) :=
  (cg_choiceDelays t f B xs c hk hm hc0).ct fun s v w ⟨_, _, h⟩ => OS.isS h
theorem ct_isPenalty (p : Int) : CT Tryz.prog 37 [.inl (.int .i64 p)] (.inl (.bool (inB p 0 1000))) := by
  refine CT_of Tryz.func37 rfl rfl rfl (fun w => ?_)
  have hC := upC_ext w
  try any_goals ((refine H_seq ?_; try refine H_reg ?_))
  try any_goals (refine W_assign (d := 2) (sq_stepper hC) rfl rfl rfl ?_)
  try any_goals ((refine Sq_nil ?_; try refine G_then ?_))
  try any_goals ((refine H_seq ?_; try refine H_reg ?_))
  try any_goals (refine W_move (d := 3) (sq_stepper hC) rfl rfl rfl ?_)
  try any_goals (refine W_ct (d := 4) (sq_stepper hC) (ct_within _ _ _) rfl rfl rfl (by kernel_rfl) ?_)
  try any_goals (refine W_assign (d := 2) (sq_stepper hC) rfl rfl rfl ?_)
  try any_goals ((refine Sq_nil ?_; try refine G_then ?_))
  try any_goals (refine H_ret ?_)
  repeat (any_goals (first | refine G_ret_then ?_ | refine G_ret_block ?_))
  all_goals exact R1v rfl (fun _ h => h) rfl rfl
theorem ct_choiceCost {e1 e2 e3 e4 : Option TypeId} (t : Tab) (f : Flt) (B : List (List Int)) (xs : List Dly) (p : Int) (c : List Int) (hk : BlV t f B) (hm : MinOk xs) (hp : 0 ≤ p ∧ p ≤ 1000) (hcan : canB t c = true) : CT Tryz.prog 39 [.inr (uA bTab t), .inr (uA bFlt f), .inr (uS e1 (pS e2 pI) B), .inr (uS e3 pDly xs), .inl (.int .i64 p), .inr (uS e4 pI c)] (.inl (.int .i64 (coS t (cdL t f B xs c) p t.T.length))) := by
  have h12 := (tabB_k hk.hv).2.1
  have hcl := cdL_len (t := t) (f := f) (B := B) (xs := xs) (c := c)
  have hdb := cdL_db (c := c) hk hm
  refine CT_of Tryz.func39 rfl rfl rfl (fun w => ?_)
  have hC := upC_ext w
  try any_goals ((refine H_seq ?_; try refine H_reg ?_))
  try any_goals (refine W_boxA (d := 6) (sq_stepper hC) rfl rfl rfl ?_)
  try any_goals (refine W_boxA (d := 7) (sq_stepper hC) rfl rfl rfl ?_)
  try any_goals (refine W_assign (d := 12) (sq_stepper hC) rfl rfl rfl ?_)
  try any_goals ((refine Sq_nil ?_; try refine G_then ?_))
  try any_goals ((refine H_seq ?_; try refine H_reg ?_))
  try any_goals (refine W_assign (d := 13) (sq_stepper hC) rfl rfl rfl ?_)
  try any_goals ((refine Sq_nil ?_; try refine G_then ?_))
  try any_goals (refine H_seq ?_)
  try any_goals ((refine H_seq ?_; try refine H_reg ?_))
  try any_goals (refine W_loadA (d := 16) (sq_stepper hC) (by kernel_rfl) rfl rfl rfl ?_)
  try any_goals (refine W_loadA (d := 17) (sq_stepper hC) (by kernel_rfl) rfl rfl rfl ?_)
  try any_goals (refine W_move (d := 18) (sq_stepper hC) rfl rfl rfl ?_)
  try any_goals (refine W_move (d := 19) (sq_stepper hC) rfl rfl rfl ?_)
  try any_goals (refine W_move (d := 20) (sq_stepper hC) rfl rfl rfl ?_)
  try any_goals (refine W_ct (d := 21) (sq_stepper hC) (ct_choiceDelays _ _ _ _ _ hk hm hcan) rfl rfl rfl (by kernel_rfl) ?_)
  try any_goals (refine W_len (d := 22) (sq_stepper hC) (by kernel_rfl) rfl rfl rfl ?_)
  try any_goals (refine W_move (d := 23) (sq_stepper hC) rfl rfl rfl ?_)
  try any_goals ((refine Sq_nil ?_; try refine G_then ?_))
  try any_goals (refine H_block ?_)
  try any_goals ((refine H_loop (σ := Nat) (fun i => i ≤ t.T.length) (fun i => [(4, .inl (.int .i64 p)), (6, .inr (uP bTab t)), (13, .inl (.int .i64 (coS t (cdL t f B xs c) p i))), (21, .inr (uS (some 3) pI (cdL t f B xs c))), (22, .inl (.int .i64 t.T.length)), (23, .inl (.int .i64 i))]) (fun _ => Ext w) (fun i => t.T.length - i) 0 (Nat.zero_le _) (fun a w h => h.sub (by repeat (first | exact trivial | refine ⟨⟨_, rfl, fun _ _ _ h => h⟩, ?_⟩ | refine ⟨⟨_, rfl, fun v w _ h => (show v = _ from h).trans (congrArg (Value.int .i64) (by first | omega | (dsimp only; omega)))⟩, ?_⟩)) fun _ h => h) (fun i hi => ?_); have hsb : 0 ≤ coS t (cdL t f B xs c) p i ∧ coS t (cdL t f B xs c) p i ≤ 158400 * i := coS_bd (c := c) hk.hv hdb hp (by omega)))
  try any_goals ((refine H_seq ?_; try refine H_reg ?_))
  try any_goals (refine W_cmp (d := 24) (sq_stepper hC) rfl rfl rfl rfl rfl ?_)
  try any_goals ((refine Sq_nil ?_; try refine G_then ?_))
  try any_goals (refine H_seq ?_)
  try any_goals ((refine H_cond _ rfl (fun hq => ?_) (fun hq => Wt.un 0 ?_) <;> (try simp only [hqs, reduceCtorEq] at hq)))
  try any_goals (first | ((have hkb : 0 ≤ coK t (cdL t f B xs c) p i ∧ coK t (cdL t f B xs c) p i ≤ 158400 := coK_bd (c := c) hk.hv hdb hp (by omega); have hst : coS t (cdL t f B xs c) p (i + 1) = coS t (cdL t f B xs c) p i + coK t (cdL t f B xs c) p i := rfl)) | skip)
  try any_goals (skip)
  try any_goals (skip)
  try any_goals (refine H_skip ?_)
  try any_goals (refine G_hold 1 ?_)
  try any_goals (refine Wt.out 0 ?_)
  try any_goals (refine H_exit ?_)
  repeat (any_goals (first | refine G_exit_then ?_ | refine G_exit_here ?_ | refine G_exit_far rfl ?_))
  try any_goals (refine G_hold 2 ?_)
  try any_goals (refine Wt.out 1 ?_)
  try any_goals (refine G_then ?_)
  try any_goals (refine H_seq ?_)
  try any_goals (refine H_block ?_)
  try any_goals ((refine H_seq ?_; try refine H_reg ?_))
  try any_goals (refine W_move (d := 25) (sq_stepper hC) rfl rfl rfl ?_)
  try any_goals (refine W_index (d := 26) (sq_stepper hC) (by kernel_rfl) rfl rfl rfl rfl (by first | omega | (dsimp only; omega)) ?_)
  try any_goals (refine W_loadI (d := 27) (sq_stepper hC) (by kernel_rfl) rfl rfl rfl ?_)
  try any_goals (refine W_assign (d := 14) (sq_stepper hC) rfl rfl rfl ?_)
  try any_goals (refine W_assign (d := 15) (sq_stepper hC) rfl rfl rfl ?_)
  try any_goals ((refine Sq_nil ?_; try refine G_then ?_))
  try any_goals (refine H_seq ?_)
  try any_goals ((refine H_seq ?_; try refine H_reg ?_))
  try any_goals (refine W_move (d := 28) (sq_stepper hC) rfl rfl rfl ?_)
  try any_goals (refine W_cmp (d := 29) (sq_stepper hC) rfl rfl rfl rfl rfl ?_)
  try any_goals ((refine Sq_nil ?_; try refine G_then ?_))
  try any_goals ((refine H_cond _ rfl (fun hq => ?_) (fun hq => Wt.un 3 ?_) <;> (try simp only [hqs, reduceCtorEq] at hq)))
  try any_goals (first | ((have hkb : 0 ≤ coK t (cdL t f B xs c) p i ∧ coK t (cdL t f B xs c) p i ≤ 158400 := coK_bd (c := c) hk.hv hdb hp (by omega); have hst : coS t (cdL t f B xs c) p (i + 1) = coS t (cdL t f B xs c) p i + coK t (cdL t f B xs c) p i := rfl)) | skip)
  try any_goals (first | ((rw [coK_y hq] at hkb hst; unfold trLin at hkb hst)) | skip)
  try any_goals (first | ((rw [coK_n hq] at hkb hst; unfold trLin at hkb hst)) | skip)
  try any_goals (refine H_reg ?_)
  try any_goals (refine W_move (d := 30) (sq_stepper hC) rfl rfl rfl ?_)
  try any_goals (refine W_assign (d := 15) (sq_stepper hC) rfl rfl rfl ?_)
  try any_goals (refine Sq_nil ?_)
  try any_goals (refine G_hold 4 ?_)
  try any_goals (refine Wt.out 3 ?_)
  try any_goals (refine H_skip ?_)
  try any_goals (refine Wt.out 4 ?_)
  try any_goals (refine G_then ?_)
  try any_goals (refine H_draw' (by kernel_rfl) hC ?_)
  try any_goals (refine W_move (d := 31) wk_stepper rfl rfl rfl ?_)
  try any_goals (refine W_move (d := 32) wk_stepper rfl rfl rfl ?_)
  try any_goals (refine W_loadA (d := 33) wk_stepper (by kernel_rfl) rfl rfl rfl ?_)
  try any_goals (refine W_fieldG (d := 34) wk_stepper (Proj.tail _ _ (Proj.head _ _ _)) (by kernel_rfl) rfl rfl rfl ?_)
  try any_goals (refine W_loadS (d := 35) wk_stepper (by kernel_rfl) rfl rfl rfl ?_)
  try any_goals (refine W_move (d := 36) wk_stepper rfl rfl rfl ?_)
  try any_goals (refine W_index (d := 37) wk_stepper (by kernel_rfl) rfl rfl rfl rfl (by first | omega | (dsimp only; omega)) ?_)
  try any_goals (refine W_loadA (d := 38) wk_stepper (by kernel_rfl) rfl rfl rfl ?_)
  try any_goals (refine W_ct (d := 39) wk_stepper (ct_lineOf _ (ix t.T i) (tr_ok hk.hv ⟨by omega, by omega⟩).1) rfl rfl rfl (by kernel_rfl) ?_)
  try any_goals (refine W_fieldVS (d := 40) wk_stepper (Proj.tail _ _ (Proj.head _ _ _)) (by kernel_rfl) rfl rfl rfl ?_)
  try any_goals (refine W_len (d := 41) wk_stepper (by kernel_rfl) rfl rfl rfl ?_)
  try any_goals (refine W_ar (d := 42) wk_stepper rfl rfl rfl rfl rfl (by first | omega | (dsimp only; omega)) ?_)
  try any_goals (refine W_ar (d := 43) wk_stepper rfl rfl rfl rfl rfl (by first | omega | (dsimp only; omega)) ?_)
  try any_goals (refine Wk_assign (by kernel_rfl) (by kernel_rfl) ?_)
  try any_goals (refine W_assign (d := 13) (sq_stepper hC) rfl rfl rfl ?_)
  try any_goals (refine Sq_nil ?_)
  repeat (any_goals (first | refine G_exit_then ?_ | refine G_exit_here ?_ | refine G_exit_far rfl ?_ | refine G_normal_block ?_))
  try any_goals (refine G_then ?_)
  try any_goals (refine H_reg ?_)
  try any_goals (refine W_ar (d := 44) (sq_stepper hC) rfl rfl rfl rfl rfl (by first | omega | (dsimp only; omega)) ?_)
  try any_goals (refine W_move (d := 23) (sq_stepper hC) rfl rfl rfl ?_)
  try any_goals (refine Sq_nil ?_)
  try any_goals (refine G_again (i + 1) (by omega) (by omega) (by repeat (first | exact trivial | refine ⟨⟨_, rfl, fun _ _ _ h => h⟩, ?_⟩ | refine ⟨⟨_, rfl, fun v w _ h => (show v = _ from h).trans (congrArg (Value.int .i64) (by first | omega | (dsimp only; omega)))⟩, ?_⟩)) (fun _ h => h))
  try any_goals (refine Wt.out 2 ?_)
  repeat (any_goals (first | refine G_exit_then ?_ | refine G_exit_here ?_ | refine G_exit_far rfl ?_ | refine G_normal_block ?_))
  try any_goals (refine G_then ?_)
  try any_goals ((refine H_seq ?_; try refine H_reg ?_))
  try any_goals (refine W_move (d := 45) (sq_stepper hC) rfl rfl rfl ?_)
  try any_goals (refine W_assign (d := 12) (sq_stepper hC) rfl rfl rfl ?_)
  try any_goals ((refine Sq_nil ?_; try refine G_then ?_))
  try any_goals (refine H_ret ?_)
  repeat (any_goals (first | refine G_ret_then ?_ | refine G_ret_block ?_))
  all_goals first
    | (exact R1v rfl (fun _ h => h) rfl (by rw [show i = t.T.length by omega]))
    | trace_state
end Go.Proofs.YtanlaggnhocjhaaGreat
