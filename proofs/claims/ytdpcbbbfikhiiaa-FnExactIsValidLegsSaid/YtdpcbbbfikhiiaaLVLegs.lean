/- The law of IsValidLegs returns true whatever its input. -/
import Derived.Test.YtdpcbbbfikhiiaaLeg
namespace Go.Proofs.Ytdpcbbbfikhiiaa
set_option linter.unusedSimpArgs false
set_option linter.unusedVariables false
open Go.RowKit Go.ChangeShapes Go.WideShapes Go.ChangeAt Go.Deep
theorem ct_lawValidLegs (xs : List Leg) : CT Try.prog 4 [.inr (uS none pLeg xs)] (.inl (.bool true)) := by
  refine CT_of Try.func4 rfl rfl rfl (fun w => ?_)
  have hC := upC_ext w
  try any_goals (refine H_seq ?_)
  try any_goals (refine H_reg ?_)
  try any_goals (first | refine W_assign (sq_stepper hC) rfl rfl rfl ?_)
  try any_goals (refine Sq_nil ?_)
  try any_goals (refine G_then ?_)
  try any_goals (refine H_seq ?_)
  try any_goals (refine H_reg ?_)
  try any_goals (first | refine W_assign (sq_stepper hC) rfl rfl rfl ?_)
  try any_goals (refine Sq_nil ?_)
  try any_goals (refine G_then ?_)
  try any_goals (refine H_seq ?_)
  try any_goals (refine H_reg ?_)
  try any_goals (first | refine W_move (sq_stepper hC) rfl rfl rfl ?_)
  try any_goals (first | refine W_move (sq_stepper hC) rfl rfl rfl ?_)
  try any_goals (first | refine W_ct (sq_stepper hC) (ct_szLegS _ _ (by omega)) rfl rfl rfl (by kernel_rfl) ?_)
  try any_goals (first | refine W_assign (sq_stepper hC) rfl rfl rfl ?_)
  try any_goals (refine Sq_nil ?_)
  try any_goals (refine G_then ?_)
  try any_goals (refine H_seq ?_)
  try any_goals (refine H_seq ?_)
  try any_goals (refine H_reg ?_)
  try any_goals (first | refine W_move (sq_stepper hC) rfl rfl rfl ?_)
  try any_goals (first | refine W_cmp (sq_stepper hC) rfl rfl rfl rfl rfl ?_ | refine W_strcmp (sq_stepper hC) rfl rfl rfl rfl rfl ?_)
  try any_goals (refine Sq_nil ?_)
  try any_goals (refine G_then ?_)
  try any_goals (first | refine H_condT rfl ?_ | refine H_condF rfl ?_ | (refine H_cond _ rfl (fun hq => ?_) (fun hq => ?_) <;> (try simp only [eq_self, not_true_eq_false, not_false_eq_true, bne_self_eq_false, Bool.false_eq_true, Bool.true_eq_false, Bool.and_eq_true, Bool.or_eq_true, Bool.or_eq_false_iff, Bool.not_not, inB_t, inB_f, decide_eq_true_eq, decide_eq_false_iff_not, Bool.not_eq_true', Bool.not_eq_false', Bool.not_eq_true, Bool.not_eq_false, Int.not_lt, Int.not_le, Nat.not_lt, Nat.not_le, reduceCtorEq, decide_true, Bool.not_true] at hq)))
  try any_goals (refine H_seq ?_)
  try any_goals (refine H_reg ?_)
  try any_goals (first | refine W_assign (sq_stepper hC) rfl rfl rfl ?_)
  try any_goals (refine Sq_nil ?_)
  try any_goals (refine G_then ?_)
  try any_goals (refine H_ret ?_)
  repeat (any_goals (first | refine G_ret_then ?_ | refine G_ret_block ?_))
  try any_goals (refine H_skip ?_)
  try any_goals (refine G_then ?_)
  try any_goals (refine H_seq ?_)
  try any_goals (refine H_reg ?_)
  try any_goals (first | refine W_move (sq_stepper hC) rfl rfl rfl ?_)
  try any_goals (first | refine W_ct (sq_stepper hC) (ct_toLegS _ (by have := szN_pos (n := xs.length) (l := 1048576) (Int.not_lt.2 (by assumption)); omega)) rfl rfl rfl (by kernel_rfl) ?_)
  try any_goals (first | refine W_ct (sq_stepper hC) (ct_sValidLegs _) rfl rfl rfl (by kernel_rfl) ?_)
  try any_goals (first | refine W_assign (sq_stepper hC) rfl rfl rfl ?_)
  try any_goals (refine Sq_nil ?_)
  try any_goals (refine G_then ?_)
  try any_goals (refine H_seq ?_)
  try any_goals (refine H_reg ?_)
  try any_goals (first | refine W_move (sq_stepper hC) rfl rfl rfl ?_)
  try any_goals (first | refine W_ct (sq_stepper hC) (ct_toLegS _ (by have := szN_pos (n := xs.length) (l := 1048576) (Int.not_lt.2 (by assumption)); omega)) rfl rfl rfl (by kernel_rfl) ?_)
  try any_goals (first | refine W_assign (sq_stepper hC) rfl rfl rfl ?_)
  try any_goals (refine Sq_nil ?_)
  try any_goals (refine G_then ?_)
  try any_goals (refine H_seq ?_)
  try any_goals (refine H_reg ?_)
  try any_goals (first | refine W_move (sq_stepper hC) rfl rfl rfl ?_)
  try any_goals (first | refine W_ct (sq_stepper hC) (ct_iValidLegs _) rfl rfl rfl (by kernel_rfl) ?_)
  try any_goals (first | refine W_assign (sq_stepper hC) rfl rfl rfl ?_)
  try any_goals (refine Sq_nil ?_)
  try any_goals (refine G_then ?_)
  try any_goals (refine H_seq ?_)
  try any_goals (refine H_seq ?_)
  try any_goals (refine H_reg ?_)
  try any_goals (first | refine W_move (sq_stepper hC) rfl rfl rfl ?_)
  try any_goals (first | refine W_move (sq_stepper hC) rfl rfl rfl ?_)
  try any_goals (first | refine W_cmp (sq_stepper hC) rfl rfl rfl rfl rfl ?_ | refine W_neqB (sq_stepper hC) rfl rfl Try.underlying4 rfl rfl ?_ | refine W_neqStr (sq_stepper hC) rfl rfl rfl rfl ?_)
  try any_goals (refine Sq_nil ?_)
  try any_goals (refine G_then ?_)
  try any_goals (first | refine H_condT rfl ?_ | refine H_condF rfl ?_ | (refine H_cond _ rfl (fun hq => ?_) (fun hq => ?_) <;> (try simp only [eq_self, not_true_eq_false, not_false_eq_true, bne_self_eq_false, Bool.false_eq_true, Bool.true_eq_false, Bool.and_eq_true, Bool.or_eq_true, Bool.or_eq_false_iff, Bool.not_not, inB_t, inB_f, decide_eq_true_eq, decide_eq_false_iff_not, Bool.not_eq_true', Bool.not_eq_false', Bool.not_eq_true, Bool.not_eq_false, Int.not_lt, Int.not_le, Nat.not_lt, Nat.not_le, reduceCtorEq, decide_true, Bool.not_true] at hq)))
  try any_goals (refine H_seq ?_)
  try any_goals (refine H_reg ?_)
  try any_goals (first | refine W_assign (sq_stepper hC) rfl rfl rfl ?_)
  try any_goals (refine Sq_nil ?_)
  try any_goals (refine G_then ?_)
  try any_goals (refine H_ret ?_)
  repeat (any_goals (first | refine G_ret_then ?_ | refine G_ret_block ?_))
  try any_goals (refine H_skip ?_)
  try any_goals (refine G_then ?_)
  try any_goals (refine H_seq ?_)
  try any_goals (refine H_seq ?_)
  try any_goals (refine H_reg ?_)
  try any_goals (first | refine W_move (sq_stepper hC) rfl rfl rfl ?_)
  try any_goals (first | refine W_move (sq_stepper hC) rfl rfl rfl ?_)
  try any_goals (first | refine W_ct (sq_stepper hC) (ct_toLegS _ (by have := szN_pos (n := xs.length) (l := 1048576) (Int.not_lt.2 (by assumption)); omega)) rfl rfl rfl (by kernel_rfl) ?_)
  try any_goals (first | refine W_ct (sq_stepper hC) (ct_eqLegS _) rfl rfl rfl (by kernel_rfl) ?_)
  try any_goals (first | refine W_not (sq_stepper hC) rfl rfl rfl ?_)
  try any_goals (refine Sq_nil ?_)
  try any_goals (refine G_then ?_)
  try any_goals (first | refine H_condT rfl ?_ | refine H_condF rfl ?_ | (refine H_cond _ rfl (fun hq => ?_) (fun hq => ?_) <;> (try simp only [eq_self, not_true_eq_false, not_false_eq_true, bne_self_eq_false, Bool.false_eq_true, Bool.true_eq_false, Bool.and_eq_true, Bool.or_eq_true, Bool.or_eq_false_iff, Bool.not_not, inB_t, inB_f, decide_eq_true_eq, decide_eq_false_iff_not, Bool.not_eq_true', Bool.not_eq_false', Bool.not_eq_true, Bool.not_eq_false, Int.not_lt, Int.not_le, Nat.not_lt, Nat.not_le, reduceCtorEq, decide_true, Bool.not_true] at hq)))
  try any_goals (refine H_seq ?_)
  try any_goals (refine H_reg ?_)
  try any_goals (first | refine W_assign (sq_stepper hC) rfl rfl rfl ?_)
  try any_goals (refine Sq_nil ?_)
  try any_goals (refine G_then ?_)
  try any_goals (refine H_ret ?_)
  repeat (any_goals (first | refine G_ret_then ?_ | refine G_ret_block ?_))
  try any_goals (refine H_skip ?_)
  try any_goals (refine G_then ?_)
  try any_goals (refine H_seq ?_)
  try any_goals (refine H_reg ?_)
  try any_goals (first | refine W_assign (sq_stepper hC) rfl rfl rfl ?_)
  try any_goals (refine Sq_nil ?_)
  try any_goals (refine G_then ?_)
  try any_goals (refine H_ret ?_)
  repeat (any_goals (first | refine G_ret_then ?_ | refine G_ret_block ?_))
  all_goals exact R1v rfl (fun _ h => h) rfl rfl
/-! The statement. -/
set_option maxRecDepth 100000 in
theorem FnExactIsValidLegs_lifted (os : Os) (started : os.Started) (H : Type) (enc : TypeId × Value → H) :
    ReturnsInHanded {} Try.checked os 4 .any (Rows.fnExactIsValidLegsSpec.pre6 enc Try.prog Try.f4 Rows.fnExactIsValidLegsRow.domain false) (Rows.fnExactIsValidLegsSpec.post enc Try.prog Try.f4 false true false false) := by
  refine returnsInHanded_of_change (C := Try.checked) own_ started (by kernel_rfl) Try.func4
    (ChangeSpec.witness6 (enc := enc) (C := Try.checked) false ⟨#[], #[.slice none 0 0], []⟩ 8 (by kernel_rfl) (by kernel_rfl) (by kernel_rfl) (by kernel_rfl)) ?_
  intro W base args ds gs before hval0 hW hcnd _
  have hval : ∀ (j : Nat) t v, Try.f4.params[j]? = some t → args[j]? = some v → Value.okWide Try.prog W .any base t v := hval0
  have hW' := hW
  obtain ⟨p, q, hA0, hV, rfl, hfz, hnd⟩ := hW
  have hA : DataW.TrodAll enc Try.prog W 0 (fun _ => true) true Try.f4.params.toList args.toList ds p := hA0
  rw [Try.params4] at hA hval
  obtain ⟨v0, vs0, d0, ds0, p0, q0, hargs, rfl, rfl, h0, r0⟩ := trodAll_cons hA
  obtain ⟨rfl, rfl, rfl⟩ := trodAll_nil r0
  obtain rfl : args = #[v0] := by cases args; simp_all
  obtain ⟨rfl, rfl⟩ := trodVars_none hV
  obtain ⟨a0, e0⟩ := arg_slice Try.underlying29 (Rd.slice Try.underlying29 (by kernel_rfl) (Nat.le_of_ble_eq_true rfl) (rd_Leg)) (hval 0 _ v0 rfl rfl) h0
  clear hA0 hval0
  refine ((ct_lawValidLegs a0).out W [v0] ⟨e0, trivial⟩).mono fun e W' ⟨u, he, bel, hu⟩ => ?_
  have hu' : u = .bool true := hu
  subst hu'
  subst he
  exact ⟨_, rfl, _, _, _, [], _, [], hW', trodAll_mk1 (shut_bool Try.underlying4 _), (trodAll_cons_mk (Below.trod laid_ (by kernel_rfl) (of_decide_eq_true (by kernel_rfl)) h0 bel (trod_lt' h0)) trodAll_mk0), rfl, Below.frame bel _, fun h => by cases h⟩
theorem FnExactIsValidLegs_over : Rows.fnExactIsValidLegsRow.holds Try.pinned (OpenSpec.ofChange Rows.fnExactIsValidLegsSpec) :=
  OpenClaim.holds_of_wide 4 Try.f4 rfl rfl rfl rfl rfl rfl rfl ⟨rfl, rfl, rfl, rfl, rfl⟩ rfl rfl rfl rfl rfl (by kernel_rfl) Try.func4 (by kernel_rfl)
    (of_decide_eq_true (by kernel_rfl)) (by unfold Func.isWrapper; first | (rw [if_pos (by decide +kernel)]; kernel_rfl) | (rw [if_neg (by decide +kernel)]; exact ⟨rfl, rfl⟩))
    (fun os started H enc _ => FnExactIsValidLegs_lifted os started H enc)
theorem FnExactIsValidLegs_holds : Rows.FnExactIsValidLegsSaid := FnExactIsValidLegs_over
#print axioms FnExactIsValidLegs_holds
end Go.Proofs.Ytdpcbbbfikhiiaa
