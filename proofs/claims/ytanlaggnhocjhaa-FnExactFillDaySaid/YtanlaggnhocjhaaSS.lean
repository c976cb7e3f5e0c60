/- Lists of lists of numbers: copied, counted, compared. -/
import Derived.Test.YtanlaggnhocjhaaFun
namespace Go.Proofs.Ytanlaggnhocjhaa
set_option linter.unusedSimpArgs false
set_option linter.unusedVariables false
open Go.RowKit Go.ChangeShapes Go.WideShapes Go.ChangeAt Go.Deep
abbrev pII := pS (some 3) pI
theorem ct_toIntSS (xs : List (List Int)) (hn : xs.length ≤ 1048576) (hf : ∀ z ∈ xs, z.length ≤ 1048576) : CT Try.prog 29 [.inr (uS none (pS none pI) xs)] (.inr (uS (some 39) pII xs)) := by
  refine CT_of1V Try.func29 rfl rfl rfl (fun w v0 hv0 => ?_)
  have hC := upC_ext w
  have hE : ∀ w', Ext w w' → Ext w w' := fun _ h => h
  try any_goals (first | (refine H_seq ?_; try refine H_reg ?_) | refine H_reg ?_)
  try any_goals (first | refine W_assign (d := 2) (sq_stepper hC) rfl rfl rfl ?_ | (refine Sq_storeM (by kernel_rfl) rfl rfl rfl elem_S hg (⟨3, rfl, by decide, trivial⟩) hi.1 (ix_get hi.1 (by omega)) ?_; have hC : UpC (Made w g 39 pII xs (i + 1)) := upC_made; have hE : ∀ w', Made w g 39 pII xs (i + 1) w' → Ext w w' := fun _ h => h.1))
  try any_goals (first | (refine Sq_nil ?_; try refine G_then ?_) | refine G_then ?_)
  try any_goals (first | (refine H_seq ?_; try refine H_reg ?_) | refine H_reg ?_)
  try any_goals (first | refine W_moveR (d := 5) (sq_stepper hC) (U := uS none (pS none pI) xs) (fun w' h => IsS.up (hE w' h) hv0) rfl rfl rfl ?_ | refine W_move (d := 5) (sq_stepper hC) rfl rfl rfl ?_ | (refine Sq_storeM (by kernel_rfl) rfl rfl rfl elem_S hg (⟨3, rfl, by decide, trivial⟩) hi.1 (ix_get hi.1 (by omega)) ?_; have hC : UpC (Made w g 39 pII xs (i + 1)) := upC_made; have hE : ∀ w', Made w g 39 pII xs (i + 1) w' → Ext w w' := fun _ h => h.1))
  try any_goals (first | refine W_len (d := 6) (sq_stepper hC) (by kernel_rfl) rfl rfl rfl ?_ | refine W_lenStr (d := 6) (sq_stepper hC) (by kernel_rfl) rfl rfl rfl ?_ | (refine Sq_storeM (by kernel_rfl) rfl rfl rfl elem_S hg (⟨3, rfl, by decide, trivial⟩) hi.1 (ix_get hi.1 (by omega)) ?_; have hC : UpC (Made w g 39 pII xs (i + 1)) := upC_made; have hE : ∀ w', Made w g 39 pII xs (i + 1) w' → Ext w w' := fun _ h => h.1))
  try any_goals (first | refine W_make (d := 7) (sq_stepper hC) rfl rfl rfl rfl ?_ | (refine Sq_make (d := 7) (e := 39) (k := Phi.k pII) hC (fun _ h => h) (by kernel_rfl) rfl rfl rfl ⟨by omega, by omega⟩ (fun g hg hgw hC hE => ?_)) | (refine Sq_storeM (by kernel_rfl) rfl rfl rfl elem_S hg (⟨3, rfl, by decide, trivial⟩) hi.1 (ix_get hi.1 (by omega)) ?_; have hC : UpC (Made w g 39 pII xs (i + 1)) := upC_made; have hE : ∀ w', Made w g 39 pII xs (i + 1) w' → Ext w w' := fun _ h => h.1))
  try any_goals (first | refine W_assign (d := 3) (sq_stepper hC) rfl rfl rfl ?_ | (refine Sq_storeM (by kernel_rfl) rfl rfl rfl elem_S hg (⟨3, rfl, by decide, trivial⟩) hi.1 (ix_get hi.1 (by omega)) ?_; have hC : UpC (Made w g 39 pII xs (i + 1)) := upC_made; have hE : ∀ w', Made w g 39 pII xs (i + 1) w' → Ext w w' := fun _ h => h.1))
  try any_goals (first | (refine Sq_nil ?_; try refine G_then ?_) | refine G_then ?_)
  try any_goals (refine H_seq ?_)
  try any_goals (first | (refine H_seq ?_; try refine H_reg ?_) | refine H_reg ?_)
  try any_goals (first | refine W_assign (d := 4) (sq_stepper hC) rfl rfl rfl ?_ | (refine Sq_storeM (by kernel_rfl) rfl rfl rfl elem_S hg (⟨3, rfl, by decide, trivial⟩) hi.1 (ix_get hi.1 (by omega)) ?_; have hC : UpC (Made w g 39 pII xs (i + 1)) := upC_made; have hE : ∀ w', Made w g 39 pII xs (i + 1) w' → Ext w w' := fun _ h => h.1))
  try any_goals (first | (refine Sq_nil ?_; try refine G_then ?_) | refine G_then ?_)
  try any_goals (refine H_block ?_)
  try any_goals ((refine H_loop (σ := Int) (fun i => 0 ≤ i ∧ i ≤ xs.length) (fun i => [(0, .inl v0), (3, .inl (.slice (some ⟨g, 0, none⟩) xs.length xs.length)), (4, .inl (.int .i64 i))]) (fun i => Made w g 39 pII xs i) (fun i => (xs.length - i).toNat) 0 ⟨by omega, by omega⟩ (fun a w' h => h.sub (by repeat (first | exact trivial | refine ⟨⟨_, rfl, fun _ _ _ h => h⟩, ?_⟩ | refine ⟨⟨_, rfl, fun v w _ h => (show v = _ from h).trans (congrArg (Value.int .i64) (by first | omega | (dsimp only; omega)))⟩, ?_⟩)) (fun w' h => made_new h rfl)) (fun i hi => ?_); have hC : UpC (Made w g 39 pII xs i) := upC_made; have hE : ∀ w', Made w g 39 pII xs i w' → Ext w w' := fun _ h => h.1))
  try any_goals (refine H_seq ?_)
  try any_goals (first | (refine H_seq ?_; try refine H_reg ?_) | refine H_reg ?_)
  try any_goals (first | refine W_move (d := 8) (sq_stepper hC) rfl rfl rfl ?_ | (refine Sq_storeM (by kernel_rfl) rfl rfl rfl elem_S hg (⟨3, rfl, by decide, trivial⟩) hi.1 (ix_get hi.1 (by omega)) ?_; have hC : UpC (Made w g 39 pII xs (i + 1)) := upC_made; have hE : ∀ w', Made w g 39 pII xs (i + 1) w' → Ext w w' := fun _ h => h.1))
  try any_goals (first | refine W_moveR (d := 9) (sq_stepper hC) (U := uS none (pS none pI) xs) (fun w' h => IsS.up (hE w' h) hv0) rfl rfl rfl ?_ | refine W_move (d := 9) (sq_stepper hC) rfl rfl rfl ?_ | (refine Sq_storeM (by kernel_rfl) rfl rfl rfl elem_S hg (⟨3, rfl, by decide, trivial⟩) hi.1 (ix_get hi.1 (by omega)) ?_; have hC : UpC (Made w g 39 pII xs (i + 1)) := upC_made; have hE : ∀ w', Made w g 39 pII xs (i + 1) w' → Ext w w' := fun _ h => h.1))
  try any_goals (first | refine W_len (d := 10) (sq_stepper hC) (by kernel_rfl) rfl rfl rfl ?_ | refine W_lenStr (d := 10) (sq_stepper hC) (by kernel_rfl) rfl rfl rfl ?_ | (refine Sq_storeM (by kernel_rfl) rfl rfl rfl elem_S hg (⟨3, rfl, by decide, trivial⟩) hi.1 (ix_get hi.1 (by omega)) ?_; have hC : UpC (Made w g 39 pII xs (i + 1)) := upC_made; have hE : ∀ w', Made w g 39 pII xs (i + 1) w' → Ext w w' := fun _ h => h.1))
  try any_goals (first | refine W_cmp (d := 11) (sq_stepper hC) rfl rfl rfl rfl rfl ?_ | refine W_strcmp (d := 11) (sq_stepper hC) rfl rfl rfl rfl rfl ?_ | (refine Sq_storeM (by kernel_rfl) rfl rfl rfl elem_S hg (⟨3, rfl, by decide, trivial⟩) hi.1 (ix_get hi.1 (by omega)) ?_; have hC : UpC (Made w g 39 pII xs (i + 1)) := upC_made; have hE : ∀ w', Made w g 39 pII xs (i + 1) w' → Ext w w' := fun _ h => h.1))
  try any_goals (first | (refine Sq_nil ?_; try refine G_then ?_) | refine G_then ?_)
  try any_goals (first | refine H_condT rfl ?_ | refine H_condF rfl ?_ | (refine H_cond _ rfl (fun hq => ?_) (fun hq => ?_) <;> (try simp only [hqs, reduceCtorEq] at hq)))
  try any_goals (refine H_skip ?_)
  try any_goals (refine H_exit ?_)
  repeat (any_goals (first | refine G_exit_then ?_ | refine G_exit_here ?_ | refine G_exit_far rfl ?_))
  try any_goals (refine G_then ?_)
  try any_goals (refine H_seq ?_)
  try any_goals (refine H_block ?_)
  try any_goals (refine H_reg ?_)
  try any_goals (first | refine W_move (d := 14) (sq_stepper hC) rfl rfl rfl ?_ | (refine Sq_storeM (by kernel_rfl) rfl rfl rfl elem_S hg (⟨3, rfl, by decide, trivial⟩) hi.1 (ix_get hi.1 (by omega)) ?_; have hC : UpC (Made w g 39 pII xs (i + 1)) := upC_made; have hE : ∀ w', Made w g 39 pII xs (i + 1) w' → Ext w w' := fun _ h => h.1))
  try any_goals (first | refine W_move (d := 15) (sq_stepper hC) rfl rfl rfl ?_ | (refine Sq_storeM (by kernel_rfl) rfl rfl rfl elem_S hg (⟨3, rfl, by decide, trivial⟩) hi.1 (ix_get hi.1 (by omega)) ?_; have hC : UpC (Made w g 39 pII xs (i + 1)) := upC_made; have hE : ∀ w', Made w g 39 pII xs (i + 1) w' → Ext w w' := fun _ h => h.1))
  try any_goals (first | refine W_moveR (d := 16) (sq_stepper hC) (U := uS none (pS none pI) xs) (fun w' h => IsS.up (hE w' h) hv0) rfl rfl rfl ?_ | refine W_move (d := 16) (sq_stepper hC) rfl rfl rfl ?_ | (refine Sq_storeM (by kernel_rfl) rfl rfl rfl elem_S hg (⟨3, rfl, by decide, trivial⟩) hi.1 (ix_get hi.1 (by omega)) ?_; have hC : UpC (Made w g 39 pII xs (i + 1)) := upC_made; have hE : ∀ w', Made w g 39 pII xs (i + 1) w' → Ext w w' := fun _ h => h.1))
  try any_goals (first | refine W_move (d := 17) (sq_stepper hC) rfl rfl rfl ?_ | (refine Sq_storeM (by kernel_rfl) rfl rfl rfl elem_S hg (⟨3, rfl, by decide, trivial⟩) hi.1 (ix_get hi.1 (by omega)) ?_; have hC : UpC (Made w g 39 pII xs (i + 1)) := upC_made; have hE : ∀ w', Made w g 39 pII xs (i + 1) w' → Ext w w' := fun _ h => h.1))
  try any_goals (first | refine W_index (d := 18) (sq_stepper hC) (by kernel_rfl) rfl rfl rfl rfl (by first | omega | (dsimp only; omega)) ?_ | refine W_indexO (d := 18) (s := Phi.k pII) (sq_stepper hC) (by kernel_rfl) rfl rfl rfl rfl (by omega) ?_ | (refine Sq_storeM (by kernel_rfl) rfl rfl rfl elem_S hg (⟨3, rfl, by decide, trivial⟩) hi.1 (ix_get hi.1 (by omega)) ?_; have hC : UpC (Made w g 39 pII xs (i + 1)) := upC_made; have hE : ∀ w', Made w g 39 pII xs (i + 1) w' → Ext w w' := fun _ h => h.1))
  try any_goals (first | refine W_loadS (d := 19) (sq_stepper hC) (by kernel_rfl) rfl rfl rfl ?_ | (refine Sq_storeM (by kernel_rfl) rfl rfl rfl elem_S hg (⟨3, rfl, by decide, trivial⟩) hi.1 (ix_get hi.1 (by omega)) ?_; have hC : UpC (Made w g 39 pII xs (i + 1)) := upC_made; have hE : ∀ w', Made w g 39 pII xs (i + 1) w' → Ext w w' := fun _ h => h.1))
  try any_goals (first | refine W_ct (d := 20) (sq_stepper hC) (ct_toIntS _ (hf _ (mem_ix hi.1 (by omega)))) rfl rfl rfl (by kernel_rfl) ?_ | (refine Sq_storeM (by kernel_rfl) rfl rfl rfl elem_S hg (⟨3, rfl, by decide, trivial⟩) hi.1 (ix_get hi.1 (by omega)) ?_; have hC : UpC (Made w g 39 pII xs (i + 1)) := upC_made; have hE : ∀ w', Made w g 39 pII xs (i + 1) w' → Ext w w' := fun _ h => h.1))
  try any_goals (first | refine W_index (d := 21) (sq_stepper hC) (by kernel_rfl) rfl rfl rfl rfl (by first | omega | (dsimp only; omega)) ?_ | refine W_indexO (d := 21) (s := Phi.k pII) (sq_stepper hC) (by kernel_rfl) rfl rfl rfl rfl (by omega) ?_ | (refine Sq_storeM (by kernel_rfl) rfl rfl rfl elem_S hg (⟨3, rfl, by decide, trivial⟩) hi.1 (ix_get hi.1 (by omega)) ?_; have hC : UpC (Made w g 39 pII xs (i + 1)) := upC_made; have hE : ∀ w', Made w g 39 pII xs (i + 1) w' → Ext w w' := fun _ h => h.1))
  try any_goals ((refine Sq_storeM (by kernel_rfl) rfl rfl rfl elem_S hg (⟨3, rfl, by decide, trivial⟩) hi.1 (ix_get hi.1 (by omega)) ?_; have hC : UpC (Made w g 39 pII xs (i + 1)) := upC_made; have hE : ∀ w', Made w g 39 pII xs (i + 1) w' → Ext w w' := fun _ h => h.1))
  try any_goals (refine Sq_nil ?_)
  repeat (any_goals (first | refine G_exit_then ?_ | refine G_exit_here ?_ | refine G_exit_far rfl ?_ | refine G_normal_block ?_))
  try any_goals (refine G_then ?_)
  try any_goals (refine H_reg ?_)
  try any_goals (first | refine W_move (d := 12) (sq_stepper hC) rfl rfl rfl ?_ | (refine Sq_storeM (by kernel_rfl) rfl rfl rfl elem_S hg (⟨3, rfl, by decide, trivial⟩) hi.1 (ix_get hi.1 (by omega)) ?_; have hC : UpC (Made w g 39 pII xs (i + 1)) := upC_made; have hE : ∀ w', Made w g 39 pII xs (i + 1) w' → Ext w w' := fun _ h => h.1))
  try any_goals (first | refine W_ar (d := 13) (sq_stepper hC) rfl rfl rfl rfl rfl (by first | omega | (dsimp only; omega)) ?_ | (refine Sq_storeM (by kernel_rfl) rfl rfl rfl elem_S hg (⟨3, rfl, by decide, trivial⟩) hi.1 (ix_get hi.1 (by omega)) ?_; have hC : UpC (Made w g 39 pII xs (i + 1)) := upC_made; have hE : ∀ w', Made w g 39 pII xs (i + 1) w' → Ext w w' := fun _ h => h.1))
  try any_goals (first | refine W_assign (d := 4) (sq_stepper hC) rfl rfl rfl ?_ | (refine Sq_storeM (by kernel_rfl) rfl rfl rfl elem_S hg (⟨3, rfl, by decide, trivial⟩) hi.1 (ix_get hi.1 (by omega)) ?_; have hC : UpC (Made w g 39 pII xs (i + 1)) := upC_made; have hE : ∀ w', Made w g 39 pII xs (i + 1) w' → Ext w w' := fun _ h => h.1))
  try any_goals (refine Sq_nil ?_)
  try any_goals (refine G_again (i + 1) ⟨by omega, by omega⟩ (by omega) (by repeat (first | exact trivial | refine ⟨⟨_, rfl, fun _ _ _ h => h⟩, ?_⟩ | refine ⟨⟨_, rfl, fun v w _ h => (show v = _ from h).trans (congrArg (Value.int .i64) (by first | omega | (dsimp only; omega)))⟩, ?_⟩)) (fun _ h => h))
  repeat (any_goals (first | refine G_exit_then ?_ | refine G_exit_here ?_ | refine G_exit_far rfl ?_ | refine G_normal_block ?_))
  try any_goals (refine G_then ?_)
  try any_goals (first | (refine H_seq ?_; try refine H_reg ?_) | refine H_reg ?_)
  try any_goals (first | refine W_move (d := 22) (sq_stepper hC) rfl rfl rfl ?_ | (refine Sq_storeM (by kernel_rfl) rfl rfl rfl elem_S hg (⟨3, rfl, by decide, trivial⟩) hi.1 (ix_get hi.1 (by omega)) ?_; have hC : UpC (Made w g 39 pII xs (i + 1)) := upC_made; have hE : ∀ w', Made w g 39 pII xs (i + 1) w' → Ext w w' := fun _ h => h.1))
  try any_goals (first | refine W_assign (d := 2) (sq_stepper hC) rfl rfl rfl ?_ | (refine Sq_storeM (by kernel_rfl) rfl rfl rfl elem_S hg (⟨3, rfl, by decide, trivial⟩) hi.1 (ix_get hi.1 (by omega)) ?_; have hC : UpC (Made w g 39 pII xs (i + 1)) := upC_made; have hE : ∀ w', Made w g 39 pII xs (i + 1) w' → Ext w w' := fun _ h => h.1))
  try any_goals (first | (refine Sq_nil ?_; try refine G_then ?_) | refine G_then ?_)
  try any_goals (refine H_ret ?_)
  repeat (any_goals (first | refine G_ret_then ?_ | refine G_ret_block ?_))
  all_goals exact R1 rfl (fun _ h => h.1) rfl (fun v w' hc hv => by
    rw [show v = _ from hv]
    exact Made.isS hc (by omega) rfl (by simp only [maxLen]; omega))
theorem ct_eqIntSS {e1 e2 : Option TypeId} (xs : List (List Int)) : CT Try.prog 37 [.inr (uS e1 pII xs), .inr (uS e2 pII xs)] (.inl (.bool true)) := by
  refine CT_len fun hlen => ?_
  refine CT_of Try.func37 rfl rfl rfl (fun w => ?_)
  have hC := upC_ext w
  try any_goals (first | (refine H_seq ?_; try refine H_reg ?_) | refine H_reg ?_)
  try any_goals (refine W_assign (d := 4) (sq_stepper hC) rfl rfl rfl ?_)
  try any_goals (first | (refine Sq_nil ?_; try refine G_then ?_) | refine G_then ?_)
  try any_goals (refine H_seq ?_)
  try any_goals (first | (refine H_seq ?_; try refine H_reg ?_) | refine H_reg ?_)
  try any_goals (refine W_move (d := 6) (sq_stepper hC) rfl rfl rfl ?_)
  try any_goals (first | refine W_len (d := 7) (sq_stepper hC) (by kernel_rfl) rfl rfl rfl ?_ | refine W_lenStr (d := 7) (sq_stepper hC) (by kernel_rfl) rfl rfl rfl ?_)
  try any_goals (refine W_move (d := 8) (sq_stepper hC) rfl rfl rfl ?_)
  try any_goals (first | refine W_len (d := 9) (sq_stepper hC) (by kernel_rfl) rfl rfl rfl ?_ | refine W_lenStr (d := 9) (sq_stepper hC) (by kernel_rfl) rfl rfl rfl ?_)
  try any_goals (first | refine W_cmp (d := 10) (sq_stepper hC) rfl rfl rfl rfl rfl ?_ | refine W_neqStr (d := 10) (sq_stepper hC) rfl rfl rfl rfl ?_ | refine W_neqB (d := 10) (sq_stepper hC) rfl rfl Try.underlying4 rfl rfl ?_)
  try any_goals (first | (refine Sq_nil ?_; try refine G_then ?_) | refine G_then ?_)
  try any_goals (first | refine H_condT rfl ?_ | refine H_condF rfl ?_ | (refine H_cond _ rfl (fun hq => ?_) (fun hq => ?_) <;> (try simp only [hqs, reduceCtorEq, decide_true, Bool.not_true, beq_self_eq_true] at hq)))
  try any_goals (first | (refine H_seq ?_; try refine H_reg ?_) | refine H_reg ?_)
  try any_goals (refine W_assign (d := 4) (sq_stepper hC) rfl rfl rfl ?_)
  try any_goals (first | (refine Sq_nil ?_; try refine G_then ?_) | refine G_then ?_)
  try any_goals (refine H_ret ?_)
  repeat (any_goals (first | refine G_ret_then ?_ | refine G_ret_block ?_))
  try any_goals (refine H_skip ?_)
  try any_goals (refine G_then ?_)
  try any_goals (refine H_seq ?_)
  try any_goals (first | (refine H_seq ?_; try refine H_reg ?_) | refine H_reg ?_)
  try any_goals (refine W_assign (d := 5) (sq_stepper hC) rfl rfl rfl ?_)
  try any_goals (first | (refine Sq_nil ?_; try refine G_then ?_) | refine G_then ?_)
  try any_goals (refine H_block ?_)
  try any_goals ((refine H_loop (σ := Int) (fun i => 0 ≤ i ∧ i ≤ xs.length) (fun i => [(0, .inr (uS e1 pII xs)), (1, .inr (uS e2 pII xs)), (5, .inl (.int .i64 i))]) (fun _ => Ext w) (fun i => (xs.length - i).toNat) 0 ⟨by omega, by omega⟩ (fun a w' h => h.sub (by repeat (first | exact trivial | refine ⟨⟨_, rfl, fun _ _ _ h => h⟩, ?_⟩ | refine ⟨⟨_, rfl, fun v w _ h => (show v = _ from h).trans (congrArg (Value.int .i64) (by first | omega | (dsimp only; omega)))⟩, ?_⟩)) (fun _ h => h)) (fun i hi => ?_)))
  try any_goals (refine H_seq ?_)
  try any_goals (first | (refine H_seq ?_; try refine H_reg ?_) | refine H_reg ?_)
  try any_goals (refine W_move (d := 11) (sq_stepper hC) rfl rfl rfl ?_)
  try any_goals (refine W_move (d := 12) (sq_stepper hC) rfl rfl rfl ?_)
  try any_goals (first | refine W_len (d := 13) (sq_stepper hC) (by kernel_rfl) rfl rfl rfl ?_ | refine W_lenStr (d := 13) (sq_stepper hC) (by kernel_rfl) rfl rfl rfl ?_)
  try any_goals (first | refine W_cmp (d := 14) (sq_stepper hC) rfl rfl rfl rfl rfl ?_ | refine W_strcmp (d := 14) (sq_stepper hC) rfl rfl rfl rfl rfl ?_)
  try any_goals (first | (refine Sq_nil ?_; try refine G_then ?_) | refine G_then ?_)
  try any_goals (first | refine H_condT rfl ?_ | refine H_condF rfl ?_ | (refine H_cond _ rfl (fun hq => ?_) (fun hq => ?_) <;> (try simp only [hqs, reduceCtorEq, decide_true, Bool.not_true, beq_self_eq_true] at hq)))
  try any_goals (refine H_skip ?_)
  try any_goals (refine H_exit ?_)
  repeat (any_goals (first | refine G_exit_then ?_ | refine G_exit_here ?_ | refine G_exit_far rfl ?_))
  try any_goals (refine G_then ?_)
  try any_goals (refine H_seq ?_)
  try any_goals (refine H_block ?_)
  try any_goals (refine H_seq ?_)
  try any_goals (refine H_draw' (by kernel_rfl) hC ?_)
  try any_goals (refine W_move (d := 17) wk_stepper rfl rfl rfl ?_)
  try any_goals (refine W_move (d := 18) wk_stepper rfl rfl rfl ?_)
  try any_goals (refine W_index (d := 19) wk_stepper (by kernel_rfl) rfl rfl rfl rfl (by first | omega | (dsimp only; omega)) ?_)
  try any_goals (refine W_loadS (d := 20) wk_stepper (by kernel_rfl) rfl rfl rfl ?_)
  try any_goals (refine W_move (d := 21) wk_stepper rfl rfl rfl ?_)
  try any_goals (refine W_move (d := 22) wk_stepper rfl rfl rfl ?_)
  try any_goals (refine W_index (d := 23) wk_stepper (by kernel_rfl) rfl rfl rfl rfl (by first | omega | (dsimp only; omega)) ?_)
  try any_goals (refine W_loadS (d := 24) wk_stepper (by kernel_rfl) rfl rfl rfl ?_)
  try any_goals (refine W_ct (d := 25) wk_stepper (ct_eqIntS _) rfl rfl rfl (by kernel_rfl) ?_)
  try any_goals (refine W_not (d := 26) wk_stepper rfl rfl rfl ?_)
  try any_goals (refine Wk_end (by kernel_rfl) (by kernel_rfl) ?_)
  try any_goals (refine G_then ?_)
  try any_goals (first | refine H_condT rfl ?_ | refine H_condF rfl ?_ | (refine H_cond _ rfl (fun hq => ?_) (fun hq => ?_) <;> (try simp only [hqs, reduceCtorEq, decide_true, Bool.not_true, beq_self_eq_true] at hq)))
  try any_goals (first | (refine H_seq ?_; try refine H_reg ?_) | refine H_reg ?_)
  try any_goals (refine W_assign (d := 4) (sq_stepper hC) rfl rfl rfl ?_)
  try any_goals (first | (refine Sq_nil ?_; try refine G_then ?_) | refine G_then ?_)
  try any_goals (refine H_ret ?_)
  repeat (any_goals (first | refine G_ret_then ?_ | refine G_ret_block ?_))
  try any_goals (refine H_skip ?_)
  repeat (any_goals (first | refine G_exit_then ?_ | refine G_exit_here ?_ | refine G_exit_far rfl ?_ | refine G_normal_block ?_))
  try any_goals (refine G_then ?_)
  try any_goals (refine H_reg ?_)
  try any_goals (refine W_move (d := 15) (sq_stepper hC) rfl rfl rfl ?_)
  try any_goals (refine W_ar (d := 16) (sq_stepper hC) rfl rfl rfl rfl rfl (by first | omega | (dsimp only; omega)) ?_)
  try any_goals (refine W_assign (d := 5) (sq_stepper hC) rfl rfl rfl ?_)
  try any_goals (refine Sq_nil ?_)
  try any_goals (refine G_again (i + 1) ⟨by omega, by omega⟩ (by omega) (by repeat (first | exact trivial | refine ⟨⟨_, rfl, fun _ _ _ h => h⟩, ?_⟩ | refine ⟨⟨_, rfl, fun v w _ h => (show v = _ from h).trans (congrArg (Value.int .i64) (by first | omega | (dsimp only; omega)))⟩, ?_⟩)) (fun _ h => h))
  repeat (any_goals (first | refine G_exit_then ?_ | refine G_exit_here ?_ | refine G_exit_far rfl ?_ | refine G_normal_block ?_))
  try any_goals (refine G_then ?_)
  try any_goals (first | (refine H_seq ?_; try refine H_reg ?_) | refine H_reg ?_)
  try any_goals (refine W_assign (d := 4) (sq_stepper hC) rfl rfl rfl ?_)
  try any_goals (first | (refine Sq_nil ?_; try refine G_then ?_) | refine G_then ?_)
  try any_goals (refine H_ret ?_)
  repeat (any_goals (first | refine G_ret_then ?_ | refine G_ret_block ?_))
  all_goals exact R1v rfl (fun _ h => h) rfl rfl
theorem ct_szIntSS (xs : List (List Int)) (l : Int) (hl : 0 ≤ l ∧ l ≤ 1048576) : CT Try.prog 22 [.inr (uS none (pS none pI) xs), .inl (.int .i64 l)] (.inr (uInt fun r => r < 0 ∨ ((0 ≤ r ∧ r ≤ l) ∧ (xs.length : Int) ≤ l ∧ ∀ z ∈ xs, (z.length : Int) ≤ l))) := by
  refine CT_len fun hlen => ?_
  refine CT_of Try.func22 rfl rfl rfl (fun w => ?_)
  have hC := upC_ext w
  try any_goals (first | (refine H_seq ?_; try refine H_reg ?_) | refine H_reg ?_)
  try any_goals (refine W_assign (d := 4) (sq_stepper hC) rfl rfl rfl ?_)
  try any_goals (first | (refine Sq_nil ?_; try refine G_then ?_) | refine G_then ?_)
  try any_goals (first | (refine H_seq ?_; try refine H_reg ?_) | refine H_reg ?_)
  try any_goals (refine W_move (d := 6) (sq_stepper hC) rfl rfl rfl ?_)
  try any_goals (refine W_move (d := 7) (sq_stepper hC) rfl rfl rfl ?_)
  try any_goals (first | refine W_len (d := 8) (sq_stepper hC) (by kernel_rfl) rfl rfl rfl ?_ | refine W_lenStr (d := 8) (sq_stepper hC) (by kernel_rfl) rfl rfl rfl ?_)
  try any_goals (refine W_ar (d := 9) (sq_stepper hC) rfl rfl rfl rfl rfl (by first | omega | (dsimp only; omega)) ?_)
  try any_goals (refine W_assign (d := 1) (sq_stepper hC) rfl rfl rfl ?_)
  try any_goals (first | (refine Sq_nil ?_; try refine G_then ?_) | refine G_then ?_)
  try any_goals (refine H_seq ?_)
  try any_goals (first | (refine H_seq ?_; try refine H_reg ?_) | refine H_reg ?_)
  try any_goals (refine W_move (d := 10) (sq_stepper hC) rfl rfl rfl ?_)
  try any_goals (first | refine W_cmp (d := 11) (sq_stepper hC) rfl rfl rfl rfl rfl ?_ | refine W_strcmp (d := 11) (sq_stepper hC) rfl rfl rfl rfl rfl ?_)
  try any_goals (first | (refine Sq_nil ?_; try refine G_then ?_) | refine G_then ?_)
  try any_goals (first | refine H_condT rfl ?_ | refine H_condF rfl ?_ | (refine H_cond _ rfl (fun hq => ?_) (fun hq => ?_) <;> (try simp only [hqs, reduceCtorEq] at hq)))
  try any_goals (first | (refine H_seq ?_; try refine H_reg ?_) | refine H_reg ?_)
  try any_goals (refine W_assign (d := 4) (sq_stepper hC) rfl rfl rfl ?_)
  try any_goals (first | (refine Sq_nil ?_; try refine G_then ?_) | refine G_then ?_)
  try any_goals (refine H_ret ?_)
  repeat (any_goals (first | refine G_ret_then ?_ | refine G_ret_block ?_))
  try any_goals (refine H_skip ?_)
  try any_goals (refine G_then ?_)
  try any_goals (refine H_seq ?_)
  try any_goals (first | (refine H_seq ?_; try refine H_reg ?_) | refine H_reg ?_)
  try any_goals (refine W_assign (d := 5) (sq_stepper hC) rfl rfl rfl ?_)
  try any_goals (first | (refine Sq_nil ?_; try refine G_then ?_) | refine G_then ?_)
  try any_goals (refine H_block ?_)
  try any_goals ((refine H_loop (σ := Int × Int) (fun x => 0 ≤ x.1 ∧ x.1 ≤ xs.length ∧ (0 ≤ x.2 ∧ x.2 ≤ l) ∧ ∀ j : Nat, (j : Int) < x.1 → ((ix xs j).length : Int) ≤ l) (fun x => [(0, .inr (uS none (pS none pI) xs)), (1, .inl (.int .i64 x.2)), (5, .inl (.int .i64 x.1))]) (fun _ => Ext w) (fun x => (xs.length - x.1).toNat) (0, l - xs.length) ⟨by simp only; omega, by simp only; omega, by simp only; omega, fun j hj => by simp only at hj; omega⟩ (fun a w h => h.sub (by repeat (first | exact trivial | refine ⟨⟨_, rfl, fun _ _ _ h => h⟩, ?_⟩ | refine ⟨⟨_, rfl, fun v w _ h => (show v = _ from h).trans (congrArg (Value.int .i64) (by first | omega | (dsimp only; omega)))⟩, ?_⟩)) fun _ h => h) (fun x hx => ?_); obtain ⟨i, m⟩ := x; obtain ⟨h0, h1, hm, hall⟩ := hx; simp only at h0 h1 hm hall; have hsz := szN_cases (ix xs i).length m))
  try any_goals (refine H_seq ?_)
  try any_goals (first | (refine H_seq ?_; try refine H_reg ?_) | refine H_reg ?_)
  try any_goals (refine W_move (d := 12) (sq_stepper hC) rfl rfl rfl ?_)
  try any_goals (refine W_move (d := 13) (sq_stepper hC) rfl rfl rfl ?_)
  try any_goals (first | refine W_len (d := 14) (sq_stepper hC) (by kernel_rfl) rfl rfl rfl ?_ | refine W_lenStr (d := 14) (sq_stepper hC) (by kernel_rfl) rfl rfl rfl ?_)
  try any_goals (first | refine W_cmp (d := 15) (sq_stepper hC) rfl rfl rfl rfl rfl ?_ | refine W_strcmp (d := 15) (sq_stepper hC) rfl rfl rfl rfl rfl ?_)
  try any_goals (first | (refine Sq_nil ?_; try refine G_then ?_) | refine G_then ?_)
  try any_goals (first | refine H_condT rfl ?_ | refine H_condF rfl ?_ | (refine H_cond _ rfl (fun hq => ?_) (fun hq => ?_) <;> (try simp only [hqs, reduceCtorEq] at hq)))
  try any_goals (refine H_skip ?_)
  try any_goals (refine H_exit ?_)
  repeat (any_goals (first | refine G_exit_then ?_ | refine G_exit_here ?_ | refine G_exit_far rfl ?_))
  try any_goals (refine G_then ?_)
  try any_goals (refine H_seq ?_)
  try any_goals (refine H_block ?_)
  try any_goals (first | (refine H_seq ?_; try refine H_reg ?_) | refine H_reg ?_)
  try any_goals (refine W_move (d := 18) (sq_stepper hC) rfl rfl rfl ?_)
  try any_goals (refine W_move (d := 19) (sq_stepper hC) rfl rfl rfl ?_)
  try any_goals (refine W_index (d := 20) (sq_stepper hC) (by kernel_rfl) rfl rfl rfl rfl (by first | omega | (dsimp only; omega)) ?_)
  try any_goals (refine W_loadS (d := 21) (sq_stepper hC) (by kernel_rfl) rfl rfl rfl ?_)
  try any_goals (refine W_move (d := 22) (sq_stepper hC) rfl rfl rfl ?_)
  try any_goals (refine W_ct (d := 23) (sq_stepper hC) (ct_szIntS _ _ (by omega)) rfl rfl rfl (by kernel_rfl) ?_)
  try any_goals (refine W_assign (d := 1) (sq_stepper hC) rfl rfl rfl ?_)
  try any_goals (first | (refine Sq_nil ?_; try refine G_then ?_) | refine G_then ?_)
  try any_goals (first | (refine H_seq ?_; try refine H_reg ?_) | refine H_reg ?_)
  try any_goals (refine W_move (d := 24) (sq_stepper hC) rfl rfl rfl ?_)
  try any_goals (first | refine W_cmp (d := 25) (sq_stepper hC) rfl rfl rfl rfl rfl ?_ | refine W_strcmp (d := 25) (sq_stepper hC) rfl rfl rfl rfl rfl ?_)
  try any_goals (first | (refine Sq_nil ?_; try refine G_then ?_) | refine G_then ?_)
  try any_goals (first | refine H_condT rfl ?_ | refine H_condF rfl ?_ | (refine H_cond _ rfl (fun hq => ?_) (fun hq => ?_) <;> (try simp only [hqs, reduceCtorEq] at hq)))
  try any_goals (first | (refine H_seq ?_; try refine H_reg ?_) | refine H_reg ?_)
  try any_goals (refine W_assign (d := 4) (sq_stepper hC) rfl rfl rfl ?_)
  try any_goals (first | (refine Sq_nil ?_; try refine G_then ?_) | refine G_then ?_)
  try any_goals (refine H_ret ?_)
  repeat (any_goals (first | refine G_ret_then ?_ | refine G_ret_block ?_))
  try any_goals (refine H_skip ?_)
  repeat (any_goals (first | refine G_exit_then ?_ | refine G_exit_here ?_ | refine G_exit_far rfl ?_ | refine G_normal_block ?_))
  try any_goals (refine G_then ?_)
  try any_goals (refine H_reg ?_)
  try any_goals (refine W_move (d := 16) (sq_stepper hC) rfl rfl rfl ?_)
  try any_goals (refine W_ar (d := 17) (sq_stepper hC) rfl rfl rfl rfl rfl (by first | omega | (dsimp only; omega)) ?_)
  try any_goals (refine W_assign (d := 5) (sq_stepper hC) rfl rfl rfl ?_)
  try any_goals (refine Sq_nil ?_)
  try any_goals (refine G_again (i + 1, szN (ix xs i).length m) ⟨by simp only; omega, by simp only; omega, by simp only; omega, ?_⟩ (by simp only; omega) (by repeat (first | exact trivial | refine ⟨⟨_, rfl, fun _ _ _ h => h⟩, ?_⟩ | refine ⟨⟨_, rfl, fun v w _ h => (show v = _ from h).trans (congrArg (Value.int .i64) (by first | omega | (dsimp only; omega)))⟩, ?_⟩)) (fun _ h => h))
  repeat (any_goals (first | refine G_exit_then ?_ | refine G_exit_here ?_ | refine G_exit_far rfl ?_ | refine G_normal_block ?_))
  try any_goals (refine G_then ?_)
  try any_goals (first | (refine H_seq ?_; try refine H_reg ?_) | refine H_reg ?_)
  try any_goals (refine W_move (d := 26) (sq_stepper hC) rfl rfl rfl ?_)
  try any_goals (refine W_assign (d := 4) (sq_stepper hC) rfl rfl rfl ?_)
  try any_goals (first | (refine Sq_nil ?_; try refine G_then ?_) | refine G_then ?_)
  try any_goals (refine H_ret ?_)
  repeat (any_goals (first | refine G_ret_then ?_ | refine G_ret_block ?_))
  all_goals (try dsimp only)
  all_goals first
    | exact R1 rfl (fun _ h => h) rfl (fun v w _ hv => ⟨_, hv, .inl (by omega)⟩)
    | exact R1 rfl (fun _ h => h) rfl (fun v w _ hv => ⟨_, hv, .inr ⟨by omega, by omega, fun z hz => mem_all (p := fun z : List Int => (z.length : Int) ≤ l) hz fun j hj => hall j (by omega)⟩⟩)
    | exact fun j hj => by
        by_cases e : (j : Int) = i
        · rw [e]; omega
        · exact hall j (by omega)
    | trace_state
theorem rd_intSS : Rd Try.prog (pS none (pS none pI)) 25 := Rd.slice Try.underlying25 (by kernel_rfl) (Nat.le_of_ble_eq_true rfl) rd_intS
/-! Membership. -/
def allN (n : Nat) (p : Nat → Bool) : Bool := (List.range n).all p
theorem allN_t {n : Nat} {p : Nat → Bool} : (allN n p = true) ↔ ∀ j, j < n → p j = true := by simp [allN, List.all_eq_true]
theorem allN_y {n i : Nat} {p : Nat → Bool} (hi : n ≤ i) (h : ∀ j, j < i → p j = true) : allN n p = true := allN_t.2 fun j hj => h j (by omega)
theorem allN_f {n i : Nat} {p : Nat → Bool} (h1 : i < n) (h : p i = false) : allN n p = false := by
  cases hl : allN n p with
  | false => rfl
  | true => rw [allN_t.1 hl i h1] at h; cases h
theorem alln_step {p : Nat → Bool} {i : Nat} (h : ∀ j, j < i → p j = true) (hi : p i = true) : ∀ j, j < i + 1 → p j = true := fun j hj => by
  by_cases e : j = i
  · rw [e]; exact hi
  · exact h j (by omega)
/-- What lies before a place of a list of lists. -/
def seenL {α : Type} [Inhabited α] (T : List (List α)) (i k : Nat) : List α := (T.take i).flatten ++ (ix T i).take k
theorem seenL_step {α : Type} [Inhabited α] {T : List (List α)} {i k : Nat} (hk : (k : Int) < (ix T i).length) : seenL T i (k + 1) = seenL T i k ++ [ix (ix T i) k] := by
  have h := ix_get (xs := ix T i) (i := (k : Int)) (by omega) hk
  rw [Int.toNat_natCast] at h
  rw [seenL, seenL, List.take_add_one, h, List.append_assoc]
  rfl
theorem seenL_next {α : Type} [Inhabited α] {T : List (List α)} {i k : Nat} (hi : (i : Int) < T.length) (hk : ((ix T i).length : Int) ≤ k) : seenL T (i + 1) 0 = seenL T i k := by
  have h := ix_get (xs := T) (i := (i : Int)) (by omega) hi
  rw [Int.toNat_natCast] at h
  rw [seenL, seenL, List.take_zero, List.append_nil, List.take_add_one, h, List.flatten_append, List.take_of_length_le (i := k) (l := ix T i) (by omega)]
  simp
theorem seenL_zero {α : Type} [Inhabited α] {T : List (List α)} : seenL T 0 0 = [] := by simp [seenL]
theorem seenL_all {α : Type} [Inhabited α] {T : List (List α)} {i : Nat} (hi : T.length ≤ i) : seenL T i 0 = T.flatten := by
  rw [seenL, List.take_zero, List.append_nil, List.take_of_length_le hi]
theorem seenL_len {α : Type} [Inhabited α] {T : List (List α)} {i k : Nat} (hi : (i : Int) < T.length) (hk : (k : Int) ≤ (ix T i).length) : (seenL T i k).length ≤ T.flatten.length := by
  have h := ix_get (xs := T) (i := (i : Int)) (by omega) hi
  rw [Int.toNat_natCast] at h
  have e : T.flatten.length = (seenL T (i + 1) 0 ++ (T.drop (i + 1)).flatten).length := by
    rw [seenL, List.take_zero, List.append_nil, ← List.flatten_append, List.take_append_drop]
  rw [e, seenL_next (k := (ix T i).length) hi (by omega), List.length_append, seenL, seenL, List.length_append, List.length_append, List.length_take, List.length_take]
  omega
end Go.Proofs.Ytanlaggnhocjhaa
