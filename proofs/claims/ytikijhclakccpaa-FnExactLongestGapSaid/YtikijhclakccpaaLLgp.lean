/- The law of LongestGap returns true whatever its input. -/
import Derived.Test.YtikijhclakccpaaLgp
namespace Go.Proofs.Ytikijhclakccpaa
set_option linter.unusedSimpArgs false
set_option linter.unusedVariables false
open Go.RowKit Go.ChangeShapes Go.WideShapes Go.ChangeAt Go.Deep
theorem ct_lawLg0 (t : Tab) (xs : List Rn) (ln st : Int) (hb : TabB t) : CT Try.prog 4 [.inr (uA aTab t), .inr (uS none pRn xs), .inl (.int .i64 ln), .inl (.int .i64 st)] (.inl (.bool true)) := by
  refine CT_of Try.func4 rfl rfl rfl (fun w => ?_)
  have hC := upC_ext w
  try any_goals (first | (refine H_seq ?_; try refine H_reg ?_) | refine H_reg ?_)
  try any_goals (refine W_boxA (d := 4) (sq_stepper hC) rfl rfl rfl ?_)
  try any_goals (refine W_assign (d := 8) (sq_stepper hC) rfl rfl rfl ?_)
  try any_goals (first | (refine Sq_nil ?_; try refine G_then ?_) | refine G_then ?_)
  try any_goals (first | (refine H_seq ?_; try refine H_reg ?_) | refine H_reg ?_)
  try any_goals (refine W_assign (d := 9) (sq_stepper hC) rfl rfl rfl ?_)
  try any_goals (first | (refine Sq_nil ?_; try refine G_then ?_) | refine G_then ?_)
  try any_goals (first | (refine H_seq ?_; try refine H_reg ?_) | refine H_reg ?_)
  try any_goals (refine W_loadA (d := 16) (sq_stepper hC) (by kernel_rfl) rfl rfl rfl ?_)
  try any_goals (refine W_move (d := 17) (sq_stepper hC) rfl rfl rfl ?_)
  try any_goals (refine W_ct (d := 18) (sq_stepper hC) (ct_szTab _ _ (by omega) hb) rfl rfl rfl (by kernel_rfl) ?_)
  try any_goals (refine W_assign (d := 9) (sq_stepper hC) rfl rfl rfl ?_)
  try any_goals (first | (refine Sq_nil ?_; try refine G_then ?_) | refine G_then ?_)
  try any_goals (refine H_seq ?_)
  try any_goals (refine H_seq ?_)
  try any_goals (refine H_name 9 rfl (fun v hv => ?_); obtain ⟨_, _, r, rfl, hr⟩ := hv; have hsz := szN_cases xs.length r)
  try any_goals (refine H_reg ?_)
  try any_goals (refine W_move (d := 19) (sq_stepper hC) rfl rfl rfl ?_)
  try any_goals (first | refine W_cmp (d := 20) (sq_stepper hC) rfl rfl rfl rfl rfl ?_ | refine W_strcmp (d := 20) (sq_stepper hC) rfl rfl rfl rfl rfl ?_)
  try any_goals (first | (refine Sq_nil ?_; try refine G_then ?_) | refine G_then ?_)
  try any_goals (first | refine H_condT rfl ?_ | refine H_condF rfl ?_ | (refine H_cond _ rfl (fun hq => ?_) (fun hq => ?_) <;> (try simp only [hqs, reduceCtorEq, decide_true, Bool.not_true] at hq)))
  try any_goals (first | (refine H_seq ?_; try refine H_reg ?_) | refine H_reg ?_)
  try any_goals (refine W_assign (d := 8) (sq_stepper hC) rfl rfl rfl ?_)
  try any_goals (first | (refine Sq_nil ?_; try refine G_then ?_) | refine G_then ?_)
  try any_goals (refine H_ret ?_)
  repeat (any_goals (first | refine G_ret_then ?_ | refine G_ret_block ?_))
  try any_goals (refine H_skip ?_)
  try any_goals (refine G_then ?_)
  try any_goals (first | (refine H_seq ?_; try refine H_reg ?_) | refine H_reg ?_)
  try any_goals (refine W_move (d := 21) (sq_stepper hC) rfl rfl rfl ?_)
  try any_goals (refine W_move (d := 22) (sq_stepper hC) rfl rfl rfl ?_)
  try any_goals (refine W_ct (d := 23) (sq_stepper hC) (ct_szRunS _ _ (by omega)) rfl rfl rfl (by kernel_rfl) ?_)
  try any_goals (refine W_assign (d := 9) (sq_stepper hC) rfl rfl rfl ?_)
  try any_goals (first | (refine Sq_nil ?_; try refine G_then ?_) | refine G_then ?_)
  try any_goals (refine H_seq ?_)
  try any_goals (first | (refine H_seq ?_; try refine H_reg ?_) | refine H_reg ?_)
  try any_goals (refine W_move (d := 24) (sq_stepper hC) rfl rfl rfl ?_)
  try any_goals (first | refine W_cmp (d := 25) (sq_stepper hC) rfl rfl rfl rfl rfl ?_ | refine W_strcmp (d := 25) (sq_stepper hC) rfl rfl rfl rfl rfl ?_)
  try any_goals (first | (refine Sq_nil ?_; try refine G_then ?_) | refine G_then ?_)
  try any_goals (first | refine H_condT rfl ?_ | refine H_condF rfl ?_ | (refine H_cond _ rfl (fun hq => ?_) (fun hq => ?_) <;> (try simp only [hqs, reduceCtorEq, decide_true, Bool.not_true] at hq)))
  try any_goals (first | (refine H_seq ?_; try refine H_reg ?_) | refine H_reg ?_)
  try any_goals (refine W_assign (d := 8) (sq_stepper hC) rfl rfl rfl ?_)
  try any_goals (first | (refine Sq_nil ?_; try refine G_then ?_) | refine G_then ?_)
  try any_goals (refine H_ret ?_)
  repeat (any_goals (first | refine G_ret_then ?_ | refine G_ret_block ?_))
  try any_goals (refine H_skip ?_)
  try any_goals (refine G_then ?_)
  try any_goals (first | (refine H_seq ?_; try refine H_reg ?_) | refine H_reg ?_)
  try any_goals (refine W_loadA (d := 27) (sq_stepper hC) (by kernel_rfl) rfl rfl rfl ?_)
  try any_goals (refine W_ct (d := 28) (sq_stepper hC) (ct_toTab _ ((hr.resolve_left (by omega)).2.f (by omega))) rfl rfl rfl (by kernel_rfl) ?_)
  try any_goals (refine W_move (d := 29) (sq_stepper hC) rfl rfl rfl ?_)
  try any_goals (refine W_ct (d := 30) (sq_stepper hC) (ct_toRunS _ (by omega)) rfl rfl rfl (by kernel_rfl) ?_)
  try any_goals (refine W_move (d := 31) (sq_stepper hC) rfl rfl rfl ?_)
  try any_goals (refine W_move (d := 32) (sq_stepper hC) rfl rfl rfl ?_)
  try any_goals (refine W_ct (d := 33) (sq_stepper hC) (ct_sLg _ _ _ _) rfl rfl rfl (by kernel_rfl) ?_)
  try any_goals (refine W_move (d := 26) (sq_stepper hC) rfl rfl rfl ?_)
  try any_goals (refine W_extract (d := 34) (sq_stepper hC) rfl rfl rfl rfl ?_)
  try any_goals (refine W_extract (d := 35) (sq_stepper hC) rfl rfl rfl rfl ?_)
  try any_goals (refine W_assign (d := 10) (sq_stepper hC) rfl rfl rfl ?_)
  try any_goals (refine W_assign (d := 11) (sq_stepper hC) rfl rfl rfl ?_)
  try any_goals (first | (refine Sq_nil ?_; try refine G_then ?_) | refine G_then ?_)
  try any_goals (first | (refine H_seq ?_; try refine H_reg ?_) | refine H_reg ?_)
  try any_goals (refine W_loadA (d := 36) (sq_stepper hC) (by kernel_rfl) rfl rfl rfl ?_)
  try any_goals (refine W_ct (d := 37) (sq_stepper hC) (ct_toTab _ ((hr.resolve_left (by omega)).2.f (by omega))) rfl rfl rfl (by kernel_rfl) ?_)
  try any_goals (refine Sq_alloc (d := 12) (by kernel_rfl) hC rfl ?_)
  try any_goals (first | refine Pend_storeA (by kernel_rfl) hC rfl rfl ?_ | refine Pend_storeI (by kernel_rfl) hC rfl rfl ?_)
  try any_goals (first | (refine Sq_nil ?_; try refine G_then ?_) | refine G_then ?_)
  try any_goals (first | (refine H_seq ?_; try refine H_reg ?_) | refine H_reg ?_)
  try any_goals (refine W_move (d := 38) (sq_stepper hC) rfl rfl rfl ?_)
  try any_goals (refine W_ct (d := 39) (sq_stepper hC) (ct_toRunS _ (by omega)) rfl rfl rfl (by kernel_rfl) ?_)
  try any_goals (refine W_assign (d := 13) (sq_stepper hC) rfl rfl rfl ?_)
  try any_goals (first | (refine Sq_nil ?_; try refine G_then ?_) | refine G_then ?_)
  try any_goals (first | (refine H_seq ?_; try refine H_reg ?_) | refine H_reg ?_)
  try any_goals (refine W_loadA (d := 41) (sq_stepper hC) (by kernel_rfl) rfl rfl rfl ?_)
  try any_goals (refine W_move (d := 42) (sq_stepper hC) rfl rfl rfl ?_)
  try any_goals (refine W_move (d := 43) (sq_stepper hC) rfl rfl rfl ?_)
  try any_goals (refine W_move (d := 44) (sq_stepper hC) rfl rfl rfl ?_)
  try any_goals (refine W_ct (d := 45) (sq_stepper hC) (ct_iLg _ _ _ _) rfl rfl rfl (by kernel_rfl) ?_)
  try any_goals (refine W_move (d := 40) (sq_stepper hC) rfl rfl rfl ?_)
  try any_goals (refine W_extract (d := 46) (sq_stepper hC) rfl rfl rfl rfl ?_)
  try any_goals (refine W_extract (d := 47) (sq_stepper hC) rfl rfl rfl rfl ?_)
  try any_goals (refine W_assign (d := 14) (sq_stepper hC) rfl rfl rfl ?_)
  try any_goals (refine W_assign (d := 15) (sq_stepper hC) rfl rfl rfl ?_)
  try any_goals (first | (refine Sq_nil ?_; try refine G_then ?_) | refine G_then ?_)
  try any_goals (refine H_seq ?_)
  try any_goals (first | (refine H_seq ?_; try refine H_reg ?_) | refine H_reg ?_)
  try any_goals (refine W_move (d := 48) (sq_stepper hC) rfl rfl rfl ?_)
  try any_goals (refine W_move (d := 49) (sq_stepper hC) rfl rfl rfl ?_)
  try any_goals (first | refine W_cmp (d := 50) (sq_stepper hC) rfl rfl rfl rfl rfl ?_ | refine W_neqStr (d := 50) (sq_stepper hC) rfl rfl rfl rfl ?_ | refine W_neqB (d := 50) (sq_stepper hC) rfl rfl Try.underlying4 rfl rfl ?_)
  try any_goals (refine W_move (d := 51) (sq_stepper hC) rfl rfl rfl ?_)
  try any_goals (first | refine W_gT (d := 52) (sq_stepper hC) _ rfl rfl ?_ | refine W_gF (d := 52) (sq_stepper hC) _ rfl rfl ?_ | (refine W_splitG (sq_stepper hC) _ rfl _ rfl (fun hq => ?_) (fun hq => ?_) <;> ((try simp only [hqs, reduceCtorEq, decide_true, Bool.not_true] at hq); try (have hq' := hq; clear hq))))
  try any_goals (first | refine W_skip (d := 52) (sq_stepper hC) rfl rfl ?_ | refine W_move (d := 52) (sq_stepper hC) rfl rfl rfl ?_)
  try any_goals (first | refine W_skip (d := 53) (sq_stepper hC) rfl rfl ?_ | refine W_move (d := 53) (sq_stepper hC) rfl rfl rfl ?_)
  try any_goals (first | refine W_skip (d := 54) (sq_stepper hC) rfl rfl ?_ | refine W_cmp (d := 54) (sq_stepper hC) rfl rfl rfl rfl rfl ?_ | refine W_neqStr (d := 54) (sq_stepper hC) rfl rfl rfl rfl ?_ | refine W_neqB (d := 54) (sq_stepper hC) rfl rfl Try.underlying4 rfl rfl ?_)
  try any_goals (first | refine W_pickT (d := 55) (sq_stepper hC) rfl rfl rfl rfl ?_ | refine W_pickF (d := 55) (sq_stepper hC) rfl rfl rfl rfl ?_)
  try any_goals (first | (refine Sq_nil ?_; try refine G_then ?_) | refine G_then ?_)
  try any_goals (first | refine H_condT rfl ?_ | refine H_condF rfl ?_ | (refine H_cond _ rfl (fun hq => ?_) (fun hq => ?_) <;> (try simp only [hqs, reduceCtorEq, decide_true, Bool.not_true] at hq)))
  try any_goals (first | (refine H_seq ?_; try refine H_reg ?_) | refine H_reg ?_)
  try any_goals (refine W_assign (d := 8) (sq_stepper hC) rfl rfl rfl ?_)
  try any_goals (first | (refine Sq_nil ?_; try refine G_then ?_) | refine G_then ?_)
  try any_goals (refine H_ret ?_)
  repeat (any_goals (first | refine G_ret_then ?_ | refine G_ret_block ?_))
  try any_goals (refine H_skip ?_)
  try any_goals (refine G_then ?_)
  try any_goals (refine H_seq ?_)
  try any_goals (refine H_seq ?_)
  try any_goals (refine H_draw' (by kernel_rfl) hC ?_)
  try any_goals (refine W_loadA (d := 56) wk_stepper (by kernel_rfl) rfl rfl rfl ?_)
  try any_goals (refine W_loadA (d := 57) wk_stepper (by kernel_rfl) rfl rfl rfl ?_)
  try any_goals (refine W_ct (d := 58) wk_stepper (ct_toTab _ ((hr.resolve_left (by omega)).2.f (by omega))) rfl rfl rfl (by kernel_rfl) ?_)
  try any_goals (refine W_ct (d := 59) wk_stepper (ct_eqTab _) rfl rfl rfl (by kernel_rfl) ?_)
  try any_goals (refine W_not (d := 60) wk_stepper rfl rfl rfl ?_)
  try any_goals (refine Wk_end (by kernel_rfl) (by kernel_rfl) ?_)
  try any_goals (refine G_then ?_)
  try any_goals (first | refine H_condT rfl ?_ | refine H_condF rfl ?_ | (refine H_cond _ rfl (fun hq => ?_) (fun hq => ?_) <;> (try simp only [hqs, reduceCtorEq, decide_true, Bool.not_true] at hq)))
  try any_goals (first | (refine H_seq ?_; try refine H_reg ?_) | refine H_reg ?_)
  try any_goals (refine W_assign (d := 8) (sq_stepper hC) rfl rfl rfl ?_)
  try any_goals (first | (refine Sq_nil ?_; try refine G_then ?_) | refine G_then ?_)
  try any_goals (refine H_ret ?_)
  repeat (any_goals (first | refine G_ret_then ?_ | refine G_ret_block ?_))
  try any_goals (refine H_skip ?_)
  try any_goals (refine G_then ?_)
  try any_goals (refine H_seq ?_)
  try any_goals (first | (refine H_seq ?_; try refine H_reg ?_) | refine H_reg ?_)
  try any_goals (refine W_move (d := 61) (sq_stepper hC) rfl rfl rfl ?_)
  try any_goals (refine W_move (d := 62) (sq_stepper hC) rfl rfl rfl ?_)
  try any_goals (refine W_ct (d := 63) (sq_stepper hC) (ct_toRunS _ (by omega)) rfl rfl rfl (by kernel_rfl) ?_)
  try any_goals (refine W_ct (d := 64) (sq_stepper hC) (ct_eqRunS _) rfl rfl rfl (by kernel_rfl) ?_)
  try any_goals (refine W_not (d := 65) (sq_stepper hC) rfl rfl rfl ?_)
  try any_goals (first | (refine Sq_nil ?_; try refine G_then ?_) | refine G_then ?_)
  try any_goals (first | refine H_condT rfl ?_ | refine H_condF rfl ?_ | (refine H_cond _ rfl (fun hq => ?_) (fun hq => ?_) <;> (try simp only [hqs, reduceCtorEq, decide_true, Bool.not_true] at hq)))
  try any_goals (first | (refine H_seq ?_; try refine H_reg ?_) | refine H_reg ?_)
  try any_goals (refine W_assign (d := 8) (sq_stepper hC) rfl rfl rfl ?_)
  try any_goals (first | (refine Sq_nil ?_; try refine G_then ?_) | refine G_then ?_)
  try any_goals (refine H_ret ?_)
  repeat (any_goals (first | refine G_ret_then ?_ | refine G_ret_block ?_))
  try any_goals (refine H_skip ?_)
  try any_goals (refine G_then ?_)
  try any_goals (first | (refine H_seq ?_; try refine H_reg ?_) | refine H_reg ?_)
  try any_goals (refine W_assign (d := 8) (sq_stepper hC) rfl rfl rfl ?_)
  try any_goals (first | (refine Sq_nil ?_; try refine G_then ?_) | refine G_then ?_)
  try any_goals (refine H_ret ?_)
  repeat (any_goals (first | refine G_ret_then ?_ | refine G_ret_block ?_))
  all_goals first
    | exact R1v rfl (fun _ h => h) rfl rfl
    | trace_state
theorem ct_lawLg (t : Tab) (xs : List Rn) (ln st : Int) : CT Try.prog 4 [.inr (uA (pTab pStrW none none none none) t), .inr (uS none pRn xs), .inl (.int .i64 ln), .inl (.int .i64 st)] (.inl (.bool true)) := CT_tab fun hb => ct_lawLg0 t xs ln st hb
/-! The statement. -/
set_option maxRecDepth 100000 in
theorem FnExactLongestGap_lifted (os : Os) (started : os.Started) (H : Type) (enc : TypeId × Value → H) :
    ReturnsInHanded {} Try.checked os 4 .any (Rows.fnExactLongestGapSpec.pre6 enc Try.prog Try.f4 Rows.fnExactLongestGapRow.domain false) (Rows.fnExactLongestGapSpec.post enc Try.prog Try.f4 false true false false) := by
  refine returnsInHanded_of_change (C := Try.checked) own_ started (by kernel_rfl) Try.func4
    (ChangeSpec.witness6 (enc := enc) (C := Try.checked) false ⟨#[], #[.agg #[.slice none 0 0, .slice none 0 0, .slice none 0 0], .slice none 0 0, .int .i64 0, .int .i64 0], []⟩ 8 (by kernel_rfl) (by kernel_rfl) (by kernel_rfl) (by kernel_rfl)) ?_
  intro W base args ds gs before hval0 hW hcnd _
  have hval : ∀ (j : Nat) t v, Try.f4.params[j]? = some t → args[j]? = some v → Value.okWide Try.prog W .any base t v := hval0
  have hW' := hW
  obtain ⟨p, q, hA0, hV, rfl, hfz, hnd⟩ := hW
  have hA : DataW.TrodAll enc Try.prog W 0 (fun _ => true) true Try.f4.params.toList args.toList ds p := hA0
  rw [Try.params4] at hA hval
  obtain ⟨v0, vs0, d0, ds0, p0, q0, hargs, rfl, rfl, h0, r0⟩ := trodAll_cons hA
  obtain ⟨v1, vs1, d1, ds1, p1, q1, rfl, rfl, rfl, h1, r1⟩ := trodAll_cons r0
  obtain ⟨v2, vs2, d2, ds2, p2, q2, rfl, rfl, rfl, h2, r2⟩ := trodAll_cons r1
  obtain ⟨v3, vs3, d3, ds3, p3, q3, rfl, rfl, rfl, h3, r3⟩ := trodAll_cons r2
  obtain ⟨rfl, rfl, rfl⟩ := trodAll_nil r3
  obtain rfl : args = #[v0, v1, v2, v3] := by cases args; simp_all
  obtain ⟨rfl, rfl⟩ := trodVars_none hV
  obtain ⟨a0, e0⟩ := arg_agg Try.underlying40 (rd_Tab) (hval 0 _ v0 rfl rfl) h0
  obtain ⟨a1, e1⟩ := arg_slice Try.underlying41 (Rd.slice Try.underlying41 (by kernel_rfl) (Nat.le_of_ble_eq_true rfl) (rd_Rn)) (hval 1 _ v1 rfl rfl) h1
  obtain ⟨a2, e2⟩ := arg_int Try.underlying3 (hval 2 _ v2 rfl rfl) h2
  obtain ⟨a3, e3⟩ := arg_int Try.underlying3 (hval 3 _ v3 rfl rfl) h3
  clear hA0 hval0
  refine ((ct_lawLg a0 a1 a2 a3).out W [v0, v1, v2, v3] ⟨e0, e1, e2, e3, trivial⟩).mono fun e W' ⟨u, he, bel, hu⟩ => ?_
  have hu' : u = .bool true := hu
  subst hu'
  subst he
  exact ⟨_, rfl, _, _, _, [], _, [], hW', trodAll_mk1 (shut_bool Try.underlying4 _), (trodAll_cons_mk (Below.trod laid_ (by kernel_rfl) (of_decide_eq_true (by kernel_rfl)) h0 bel (trod_lt' h0)) (trodAll_cons_mk (Below.trod laid_ (by kernel_rfl) (of_decide_eq_true (by kernel_rfl)) h1 bel (trod_lt' h1)) (trodAll_cons_mk (Below.trod laid_ (by kernel_rfl) (of_decide_eq_true (by kernel_rfl)) h2 bel (trod_lt' h2)) (trodAll_cons_mk (Below.trod laid_ (by kernel_rfl) (of_decide_eq_true (by kernel_rfl)) h3 bel (trod_lt' h3)) trodAll_mk0)))), rfl, Below.frame bel _, fun h => by cases h⟩
theorem FnExactLongestGap_over : Rows.fnExactLongestGapRow.holds Try.pinned (OpenSpec.ofChange Rows.fnExactLongestGapSpec) :=
  OpenClaim.holds_of_wide 4 Try.f4 rfl rfl rfl rfl rfl rfl rfl ⟨rfl, rfl, rfl, rfl, rfl⟩ rfl rfl rfl rfl rfl (by kernel_rfl) Try.func4 (by kernel_rfl)
    (of_decide_eq_true (by kernel_rfl)) (by unfold Func.isWrapper; first | (rw [if_pos (by decide +kernel)]; kernel_rfl) | (rw [if_neg (by decide +kernel)]; exact ⟨rfl, rfl⟩))
    (fun os started H enc _ => FnExactLongestGap_lifted os started H enc)
theorem FnExactLongestGap_holds : Rows.FnExactLongestGapSaid := FnExactLongestGap_over
#print axioms FnExactLongestGap_holds
end Go.Proofs.Ytikijhclakccpaa
