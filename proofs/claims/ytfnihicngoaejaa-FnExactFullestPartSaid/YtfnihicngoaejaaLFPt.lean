/- The law of FullestPart returns true whatever its input. -/
import Derived.Test.YtfnihicngoaejaaFPt
namespace Go.Proofs.Ytfnihicngoaejaa
set_option linter.unusedSimpArgs false
set_option linter.unusedVariables false
open Go.RowKit Go.ChangeShapes Go.WideShapes Go.ChangeAt Go.Deep
theorem ct_lawFPt0 (t : Tab) (xs : List Flw) (cap : Int) (hb : TabB t) : CT Try.prog 9 [.inr (uA aTab t), .inr (uS none pFlw xs), .inl (.int .i64 cap)] (.inl (.bool true)) := by
  refine CT_of Try.func9 rfl rfl rfl (fun w => ?_)
  have hC := upC_ext w
  try any_goals (first | (refine H_seq ?_; try refine H_reg ?_) | refine H_reg ?_)
  try any_goals (refine W_boxA (d := 3) (sq_stepper hC) rfl rfl rfl ?_)
  try any_goals (refine W_assign (d := 6) (sq_stepper hC) rfl rfl rfl ?_)
  try any_goals (first | (refine Sq_nil ?_; try refine G_then ?_) | refine G_then ?_)
  try any_goals (first | (refine H_seq ?_; try refine H_reg ?_) | refine H_reg ?_)
  try any_goals (refine W_assign (d := 7) (sq_stepper hC) rfl rfl rfl ?_)
  try any_goals (first | (refine Sq_nil ?_; try refine G_then ?_) | refine G_then ?_)
  try any_goals (first | (refine H_seq ?_; try refine H_reg ?_) | refine H_reg ?_)
  try any_goals (refine W_loadA (d := 18) (sq_stepper hC) (by kernel_rfl) rfl rfl rfl ?_)
  try any_goals (refine W_move (d := 19) (sq_stepper hC) rfl rfl rfl ?_)
  try any_goals (refine W_ct (d := 20) (sq_stepper hC) (ct_szTab _ _ (by omega) hb) rfl rfl rfl (by kernel_rfl) ?_)
  try any_goals (refine W_assign (d := 7) (sq_stepper hC) rfl rfl rfl ?_)
  try any_goals (first | (refine Sq_nil ?_; try refine G_then ?_) | refine G_then ?_)
  try any_goals (refine H_seq ?_)
  try any_goals (refine H_seq ?_)
  try any_goals (refine H_name 7 rfl (fun v hv => ?_); obtain ⟨_, _, r, rfl, hr⟩ := hv; have hsz := szN_cases xs.length r)
  try any_goals (refine H_reg ?_)
  try any_goals (refine W_move (d := 21) (sq_stepper hC) rfl rfl rfl ?_)
  try any_goals (first | refine W_cmp (d := 22) (sq_stepper hC) rfl rfl rfl rfl rfl ?_ | refine W_strcmp (d := 22) (sq_stepper hC) rfl rfl rfl rfl rfl ?_)
  try any_goals (first | (refine Sq_nil ?_; try refine G_then ?_) | refine G_then ?_)
  try any_goals (first | refine H_condT rfl ?_ | refine H_condF rfl ?_ | (refine H_cond _ rfl (fun hq => ?_) (fun hq => ?_) <;> (try simp only [hqs, reduceCtorEq, decide_true, Bool.not_true] at hq)))
  try any_goals (first | (refine H_seq ?_; try refine H_reg ?_) | refine H_reg ?_)
  try any_goals (refine W_assign (d := 6) (sq_stepper hC) rfl rfl rfl ?_)
  try any_goals (first | (refine Sq_nil ?_; try refine G_then ?_) | refine G_then ?_)
  try any_goals (refine H_ret ?_)
  repeat (any_goals (first | refine G_ret_then ?_ | refine G_ret_block ?_))
  try any_goals (refine H_skip ?_)
  try any_goals (refine G_then ?_)
  try any_goals (first | (refine H_seq ?_; try refine H_reg ?_) | refine H_reg ?_)
  try any_goals (refine W_move (d := 23) (sq_stepper hC) rfl rfl rfl ?_)
  try any_goals (refine W_move (d := 24) (sq_stepper hC) rfl rfl rfl ?_)
  try any_goals (refine W_ct (d := 25) (sq_stepper hC) (ct_szFlowS _ _ (by omega)) rfl rfl rfl (by kernel_rfl) ?_)
  try any_goals (refine W_assign (d := 7) (sq_stepper hC) rfl rfl rfl ?_)
  try any_goals (first | (refine Sq_nil ?_; try refine G_then ?_) | refine G_then ?_)
  try any_goals (refine H_seq ?_)
  try any_goals (first | (refine H_seq ?_; try refine H_reg ?_) | refine H_reg ?_)
  try any_goals (refine W_move (d := 26) (sq_stepper hC) rfl rfl rfl ?_)
  try any_goals (first | refine W_cmp (d := 27) (sq_stepper hC) rfl rfl rfl rfl rfl ?_ | refine W_strcmp (d := 27) (sq_stepper hC) rfl rfl rfl rfl rfl ?_)
  try any_goals (first | (refine Sq_nil ?_; try refine G_then ?_) | refine G_then ?_)
  try any_goals (first | refine H_condT rfl ?_ | refine H_condF rfl ?_ | (refine H_cond _ rfl (fun hq => ?_) (fun hq => ?_) <;> (try simp only [hqs, reduceCtorEq, decide_true, Bool.not_true] at hq)))
  try any_goals (first | (refine H_seq ?_; try refine H_reg ?_) | refine H_reg ?_)
  try any_goals (refine W_assign (d := 6) (sq_stepper hC) rfl rfl rfl ?_)
  try any_goals (first | (refine Sq_nil ?_; try refine G_then ?_) | refine G_then ?_)
  try any_goals (refine H_ret ?_)
  repeat (any_goals (first | refine G_ret_then ?_ | refine G_ret_block ?_))
  try any_goals (refine H_skip ?_)
  try any_goals (refine G_then ?_)
  try any_goals (first | (refine H_seq ?_; try refine H_reg ?_) | refine H_reg ?_)
  try any_goals (refine W_loadA (d := 29) (sq_stepper hC) (by kernel_rfl) rfl rfl rfl ?_)
  try any_goals (refine W_ct (d := 30) (sq_stepper hC) (ct_toTab _ ((hr.resolve_left (by omega)).2.f (by omega))) rfl rfl rfl (by kernel_rfl) ?_)
  try any_goals (refine W_move (d := 31) (sq_stepper hC) rfl rfl rfl ?_)
  try any_goals (refine W_ct (d := 32) (sq_stepper hC) (ct_toFlowS _ (by omega)) rfl rfl rfl (by kernel_rfl) ?_)
  try any_goals (refine W_move (d := 33) (sq_stepper hC) rfl rfl rfl ?_)
  try any_goals (refine W_ct (d := 34) (sq_stepper hC) (ct_sFPt _ _ _) rfl rfl rfl (by kernel_rfl) ?_)
  try any_goals (refine W_move (d := 28) (sq_stepper hC) rfl rfl rfl ?_)
  try any_goals (refine W_extract (d := 35) (sq_stepper hC) rfl rfl rfl rfl ?_)
  try any_goals (refine W_extract (d := 36) (sq_stepper hC) rfl rfl rfl rfl ?_)
  try any_goals (refine W_extract (d := 37) (sq_stepper hC) rfl rfl rfl rfl ?_)
  try any_goals (refine W_extract (d := 38) (sq_stepper hC) rfl rfl rfl rfl ?_)
  try any_goals (refine W_assign (d := 8) (sq_stepper hC) rfl rfl rfl ?_)
  try any_goals (refine W_assign (d := 9) (sq_stepper hC) rfl rfl rfl ?_)
  try any_goals (refine W_assign (d := 10) (sq_stepper hC) rfl rfl rfl ?_)
  try any_goals (refine W_assign (d := 11) (sq_stepper hC) rfl rfl rfl ?_)
  try any_goals (first | (refine Sq_nil ?_; try refine G_then ?_) | refine G_then ?_)
  try any_goals (first | (refine H_seq ?_; try refine H_reg ?_) | refine H_reg ?_)
  try any_goals (refine W_loadA (d := 39) (sq_stepper hC) (by kernel_rfl) rfl rfl rfl ?_)
  try any_goals (refine W_ct (d := 40) (sq_stepper hC) (ct_toTab _ ((hr.resolve_left (by omega)).2.f (by omega))) rfl rfl rfl (by kernel_rfl) ?_)
  try any_goals (refine Sq_alloc (d := 12) (by kernel_rfl) hC rfl ?_)
  try any_goals (first | refine Pend_storeA (by kernel_rfl) hC rfl rfl ?_ | refine Pend_storeI (by kernel_rfl) hC rfl rfl ?_)
  try any_goals (first | (refine Sq_nil ?_; try refine G_then ?_) | refine G_then ?_)
  try any_goals (first | (refine H_seq ?_; try refine H_reg ?_) | refine H_reg ?_)
  try any_goals (refine W_move (d := 41) (sq_stepper hC) rfl rfl rfl ?_)
  try any_goals (refine W_ct (d := 42) (sq_stepper hC) (ct_toFlowS _ (by omega)) rfl rfl rfl (by kernel_rfl) ?_)
  try any_goals (refine W_assign (d := 13) (sq_stepper hC) rfl rfl rfl ?_)
  try any_goals (first | (refine Sq_nil ?_; try refine G_then ?_) | refine G_then ?_)
  try any_goals (first | (refine H_seq ?_; try refine H_reg ?_) | refine H_reg ?_)
  try any_goals (refine W_loadA (d := 44) (sq_stepper hC) (by kernel_rfl) rfl rfl rfl ?_)
  try any_goals (refine W_move (d := 45) (sq_stepper hC) rfl rfl rfl ?_)
  try any_goals (refine W_move (d := 46) (sq_stepper hC) rfl rfl rfl ?_)
  try any_goals (refine W_ct (d := 47) (sq_stepper hC) (ct_iFPt _ _ _) rfl rfl rfl (by kernel_rfl) ?_)
  try any_goals (refine W_move (d := 43) (sq_stepper hC) rfl rfl rfl ?_)
  try any_goals (refine W_extract (d := 48) (sq_stepper hC) rfl rfl rfl rfl ?_)
  try any_goals (refine W_extract (d := 49) (sq_stepper hC) rfl rfl rfl rfl ?_)
  try any_goals (refine W_extract (d := 50) (sq_stepper hC) rfl rfl rfl rfl ?_)
  try any_goals (refine W_extract (d := 51) (sq_stepper hC) rfl rfl rfl rfl ?_)
  try any_goals (refine W_assign (d := 14) (sq_stepper hC) rfl rfl rfl ?_)
  try any_goals (refine W_assign (d := 15) (sq_stepper hC) rfl rfl rfl ?_)
  try any_goals (refine W_assign (d := 16) (sq_stepper hC) rfl rfl rfl ?_)
  try any_goals (refine W_assign (d := 17) (sq_stepper hC) rfl rfl rfl ?_)
  try any_goals (first | (refine Sq_nil ?_; try refine G_then ?_) | refine G_then ?_)
  try any_goals (refine H_seq ?_)
  try any_goals (first | (refine H_seq ?_; try refine H_reg ?_) | refine H_reg ?_)
  try any_goals (refine W_move (d := 52) (sq_stepper hC) rfl rfl rfl ?_)
  try any_goals (refine W_move (d := 53) (sq_stepper hC) rfl rfl rfl ?_)
  try any_goals (first | refine W_cmp (d := 54) (sq_stepper hC) rfl rfl rfl rfl rfl ?_ | refine W_neqStr (d := 54) (sq_stepper hC) rfl rfl rfl rfl ?_ | refine W_neqB (d := 54) (sq_stepper hC) rfl rfl Try.underlying4 rfl rfl ?_)
  try any_goals (refine W_move (d := 55) (sq_stepper hC) rfl rfl rfl ?_)
  try any_goals (first | refine W_gT (d := 56) (sq_stepper hC) _ rfl rfl ?_ | refine W_gF (d := 56) (sq_stepper hC) _ rfl rfl ?_ | (refine W_splitG (sq_stepper hC) _ rfl _ rfl (fun hq => ?_) (fun hq => ?_) <;> ((try simp only [hqs, reduceCtorEq, decide_true, Bool.not_true] at hq); try (have hq' := hq; clear hq))))
  try any_goals (first | refine W_skip (d := 56) (sq_stepper hC) rfl rfl ?_ | refine W_move (d := 56) (sq_stepper hC) rfl rfl rfl ?_)
  try any_goals (first | refine W_skip (d := 57) (sq_stepper hC) rfl rfl ?_ | refine W_move (d := 57) (sq_stepper hC) rfl rfl rfl ?_)
  try any_goals (first | refine W_skip (d := 58) (sq_stepper hC) rfl rfl ?_ | refine W_cmp (d := 58) (sq_stepper hC) rfl rfl rfl rfl rfl ?_ | refine W_neqStr (d := 58) (sq_stepper hC) rfl rfl rfl rfl ?_ | refine W_neqB (d := 58) (sq_stepper hC) rfl rfl Try.underlying4 rfl rfl ?_)
  try any_goals (first | refine W_pickT (d := 59) (sq_stepper hC) rfl rfl rfl rfl ?_ | refine W_pickF (d := 59) (sq_stepper hC) rfl rfl rfl rfl ?_)
  try any_goals (refine W_move (d := 60) (sq_stepper hC) rfl rfl rfl ?_)
  try any_goals (first | refine W_gT (d := 61) (sq_stepper hC) _ rfl rfl ?_ | refine W_gF (d := 61) (sq_stepper hC) _ rfl rfl ?_ | (refine W_splitG (sq_stepper hC) _ rfl _ rfl (fun hq => ?_) (fun hq => ?_) <;> ((try simp only [hqs, reduceCtorEq, decide_true, Bool.not_true] at hq); try (have hq' := hq; clear hq))))
  try any_goals (first | refine W_skip (d := 61) (sq_stepper hC) rfl rfl ?_ | refine W_move (d := 61) (sq_stepper hC) rfl rfl rfl ?_)
  try any_goals (first | refine W_skip (d := 62) (sq_stepper hC) rfl rfl ?_ | refine W_move (d := 62) (sq_stepper hC) rfl rfl rfl ?_)
  try any_goals (first | refine W_skip (d := 63) (sq_stepper hC) rfl rfl ?_ | refine W_cmp (d := 63) (sq_stepper hC) rfl rfl rfl rfl rfl ?_ | refine W_neqStr (d := 63) (sq_stepper hC) rfl rfl rfl rfl ?_ | refine W_neqB (d := 63) (sq_stepper hC) rfl rfl Try.underlying4 rfl rfl ?_)
  try any_goals (first | refine W_pickT (d := 64) (sq_stepper hC) rfl rfl rfl rfl ?_ | refine W_pickF (d := 64) (sq_stepper hC) rfl rfl rfl rfl ?_)
  try any_goals (refine W_move (d := 65) (sq_stepper hC) rfl rfl rfl ?_)
  try any_goals (first | refine W_gT (d := 66) (sq_stepper hC) _ rfl rfl ?_ | refine W_gF (d := 66) (sq_stepper hC) _ rfl rfl ?_ | (refine W_splitG (sq_stepper hC) _ rfl _ rfl (fun hq => ?_) (fun hq => ?_) <;> ((try simp only [hqs, reduceCtorEq, decide_true, Bool.not_true] at hq); try (have hq' := hq; clear hq))))
  try any_goals (first | refine W_skip (d := 66) (sq_stepper hC) rfl rfl ?_ | refine W_move (d := 66) (sq_stepper hC) rfl rfl rfl ?_)
  try any_goals (first | refine W_skip (d := 67) (sq_stepper hC) rfl rfl ?_ | refine W_move (d := 67) (sq_stepper hC) rfl rfl rfl ?_)
  try any_goals (first | refine W_skip (d := 68) (sq_stepper hC) rfl rfl ?_ | refine W_cmp (d := 68) (sq_stepper hC) rfl rfl rfl rfl rfl ?_ | refine W_neqStr (d := 68) (sq_stepper hC) rfl rfl rfl rfl ?_ | refine W_neqB (d := 68) (sq_stepper hC) rfl rfl Try.underlying4 rfl rfl ?_)
  try any_goals (first | refine W_pickT (d := 69) (sq_stepper hC) rfl rfl rfl rfl ?_ | refine W_pickF (d := 69) (sq_stepper hC) rfl rfl rfl rfl ?_)
  try any_goals (first | (refine Sq_nil ?_; try refine G_then ?_) | refine G_then ?_)
  try any_goals (first | refine H_condT rfl ?_ | refine H_condF rfl ?_ | (refine H_cond _ rfl (fun hq => ?_) (fun hq => ?_) <;> (try simp only [hqs, reduceCtorEq, decide_true, Bool.not_true] at hq)))
  try any_goals (first | (refine H_seq ?_; try refine H_reg ?_) | refine H_reg ?_)
  try any_goals (refine W_assign (d := 6) (sq_stepper hC) rfl rfl rfl ?_)
  try any_goals (first | (refine Sq_nil ?_; try refine G_then ?_) | refine G_then ?_)
  try any_goals (refine H_ret ?_)
  repeat (any_goals (first | refine G_ret_then ?_ | refine G_ret_block ?_))
  try any_goals (refine H_skip ?_)
  try any_goals (refine G_then ?_)
  try any_goals (refine H_seq ?_)
  try any_goals (refine H_seq ?_)
  try any_goals (refine H_draw' (by kernel_rfl) hC ?_)
  try any_goals (refine W_loadA (d := 70) wk_stepper (by kernel_rfl) rfl rfl rfl ?_)
  try any_goals (refine W_loadA (d := 71) wk_stepper (by kernel_rfl) rfl rfl rfl ?_)
  try any_goals (refine W_ct (d := 72) wk_stepper (ct_toTab _ ((hr.resolve_left (by omega)).2.f (by omega))) rfl rfl rfl (by kernel_rfl) ?_)
  try any_goals (refine W_ct (d := 73) wk_stepper (ct_eqTab _) rfl rfl rfl (by kernel_rfl) ?_)
  try any_goals (refine W_not (d := 74) wk_stepper rfl rfl rfl ?_)
  try any_goals (refine Wk_end (by kernel_rfl) (by kernel_rfl) ?_)
  try any_goals (refine G_then ?_)
  try any_goals (first | refine H_condT rfl ?_ | refine H_condF rfl ?_ | (refine H_cond _ rfl (fun hq => ?_) (fun hq => ?_) <;> (try simp only [hqs, reduceCtorEq, decide_true, Bool.not_true] at hq)))
  try any_goals (first | (refine H_seq ?_; try refine H_reg ?_) | refine H_reg ?_)
  try any_goals (refine W_assign (d := 6) (sq_stepper hC) rfl rfl rfl ?_)
  try any_goals (first | (refine Sq_nil ?_; try refine G_then ?_) | refine G_then ?_)
  try any_goals (refine H_ret ?_)
  repeat (any_goals (first | refine G_ret_then ?_ | refine G_ret_block ?_))
  try any_goals (refine H_skip ?_)
  try any_goals (refine G_then ?_)
  try any_goals (refine H_seq ?_)
  try any_goals (first | (refine H_seq ?_; try refine H_reg ?_) | refine H_reg ?_)
  try any_goals (refine W_move (d := 75) (sq_stepper hC) rfl rfl rfl ?_)
  try any_goals (refine W_move (d := 76) (sq_stepper hC) rfl rfl rfl ?_)
  try any_goals (refine W_ct (d := 77) (sq_stepper hC) (ct_toFlowS _ (by omega)) rfl rfl rfl (by kernel_rfl) ?_)
  try any_goals (refine W_ct (d := 78) (sq_stepper hC) (ct_eqFlowS _) rfl rfl rfl (by kernel_rfl) ?_)
  try any_goals (refine W_not (d := 79) (sq_stepper hC) rfl rfl rfl ?_)
  try any_goals (first | (refine Sq_nil ?_; try refine G_then ?_) | refine G_then ?_)
  try any_goals (first | refine H_condT rfl ?_ | refine H_condF rfl ?_ | (refine H_cond _ rfl (fun hq => ?_) (fun hq => ?_) <;> (try simp only [hqs, reduceCtorEq, decide_true, Bool.not_true] at hq)))
  try any_goals (first | (refine H_seq ?_; try refine H_reg ?_) | refine H_reg ?_)
  try any_goals (refine W_assign (d := 6) (sq_stepper hC) rfl rfl rfl ?_)
  try any_goals (first | (refine Sq_nil ?_; try refine G_then ?_) | refine G_then ?_)
  try any_goals (refine H_ret ?_)
  repeat (any_goals (first | refine G_ret_then ?_ | refine G_ret_block ?_))
  try any_goals (refine H_skip ?_)
  try any_goals (refine G_then ?_)
  try any_goals (first | (refine H_seq ?_; try refine H_reg ?_) | refine H_reg ?_)
  try any_goals (refine W_assign (d := 6) (sq_stepper hC) rfl rfl rfl ?_)
  try any_goals (first | (refine Sq_nil ?_; try refine G_then ?_) | refine G_then ?_)
  try any_goals (refine H_ret ?_)
  repeat (any_goals (first | refine G_ret_then ?_ | refine G_ret_block ?_))
  all_goals exact R1v rfl (fun _ h => h) rfl rfl
theorem ct_lawFPt (t : Tab) (xs : List Flw) (cap : Int) : CT Try.prog 9 [.inr (uA (pTab pStrW none none none none) t), .inr (uS none pFlw xs), .inl (.int .i64 cap)] (.inl (.bool true)) := CT_tab fun hb => ct_lawFPt0 t xs cap hb
/-! The statement. -/
set_option maxRecDepth 100000 in
theorem FnExactFullestPart_lifted (os : Os) (started : os.Started) (H : Type) (enc : TypeId × Value → H) :
    ReturnsInHanded {} Try.checked os 9 .any (Rows.fnExactFullestPartSpec.pre6 enc Try.prog Try.f9 Rows.fnExactFullestPartRow.domain false) (Rows.fnExactFullestPartSpec.post enc Try.prog Try.f9 false true false false) := by
  refine returnsInHanded_of_change (C := Try.checked) own_ started (by kernel_rfl) Try.func9
    (ChangeSpec.witness6 (enc := enc) (C := Try.checked) false ⟨#[], #[.agg #[.slice none 0 0, .slice none 0 0, .slice none 0 0], .slice none 0 0, .int .i64 0], []⟩ 8 (by kernel_rfl) (by kernel_rfl) (by kernel_rfl) (by kernel_rfl)) ?_
  intro W base args ds gs before hval0 hW hcnd _
  have hval : ∀ (j : Nat) t v, Try.f9.params[j]? = some t → args[j]? = some v → Value.okWide Try.prog W .any base t v := hval0
  have hW' := hW
  obtain ⟨p, q, hA0, hV, rfl, hfz, hnd⟩ := hW
  have hA : DataW.TrodAll enc Try.prog W 0 (fun _ => true) true Try.f9.params.toList args.toList ds p := hA0
  rw [Try.params9] at hA hval
  obtain ⟨v0, vs0, d0, ds0, p0, q0, hargs, rfl, rfl, h0, r0⟩ := trodAll_cons hA
  obtain ⟨v1, vs1, d1, ds1, p1, q1, rfl, rfl, rfl, h1, r1⟩ := trodAll_cons r0
  obtain ⟨v2, vs2, d2, ds2, p2, q2, rfl, rfl, rfl, h2, r2⟩ := trodAll_cons r1
  obtain ⟨rfl, rfl, rfl⟩ := trodAll_nil r2
  obtain rfl : args = #[v0, v1, v2] := by cases args; simp_all
  obtain ⟨rfl, rfl⟩ := trodVars_none hV
  obtain ⟨a0, e0⟩ := arg_agg Try.underlying28 (rd_Tab) (hval 0 _ v0 rfl rfl) h0
  obtain ⟨a1, e1⟩ := arg_slice Try.underlying29 (Rd.slice Try.underlying29 (by kernel_rfl) (Nat.le_of_ble_eq_true rfl) (rd_Flw)) (hval 1 _ v1 rfl rfl) h1
  obtain ⟨a2, e2⟩ := arg_int Try.underlying3 (hval 2 _ v2 rfl rfl) h2
  clear hA0 hval0
  refine ((ct_lawFPt a0 a1 a2).out W [v0, v1, v2] ⟨e0, e1, e2, trivial⟩).mono fun e W' ⟨u, he, bel, hu⟩ => ?_
  have hu' : u = .bool true := hu
  subst hu'
  subst he
  exact ⟨_, rfl, _, _, _, [], _, [], hW', trodAll_mk1 (shut_bool Try.underlying4 _), (trodAll_cons_mk (Below.trod laid_ (by kernel_rfl) (of_decide_eq_true (by kernel_rfl)) h0 bel (trod_lt' h0)) (trodAll_cons_mk (Below.trod laid_ (by kernel_rfl) (of_decide_eq_true (by kernel_rfl)) h1 bel (trod_lt' h1)) (trodAll_cons_mk (Below.trod laid_ (by kernel_rfl) (of_decide_eq_true (by kernel_rfl)) h2 bel (trod_lt' h2)) trodAll_mk0))), rfl, Below.frame bel _, fun h => by cases h⟩
theorem FnExactFullestPart_over : Rows.fnExactFullestPartRow.holds Try.pinned (OpenSpec.ofChange Rows.fnExactFullestPartSpec) :=
  OpenClaim.holds_of_wide 9 Try.f9 rfl rfl rfl rfl rfl rfl rfl ⟨rfl, rfl, rfl, rfl, rfl⟩ rfl rfl rfl rfl rfl (by kernel_rfl) Try.func9 (by kernel_rfl)
    (of_decide_eq_true (by kernel_rfl)) (by unfold Func.isWrapper; first | (rw [if_pos (by decide +kernel)]; kernel_rfl) | (rw [if_neg (by decide +kernel)]; exact ⟨rfl, rfl⟩))
    (fun os started H enc _ => FnExactFullestPart_lifted os started H enc)
theorem FnExactFullestPart_holds : Rows.FnExactFullestPartSaid := FnExactFullestPart_over
#print axioms FnExactFullestPart_holds
end Go.Proofs.Ytfnihicngoaejaa
