/- Batteries; small functions on numbers. -/
import Derived.Test.YtdpcbbbfikhiiaaFun
namespace Go.Proofs.Ytdpcbbbfikhiiaa
set_option linter.unusedSimpArgs false
set_option linter.unusedVariables false
open Go.RowKit Go.ChangeShapes Go.WideShapes Go.ChangeAt Go.Deep
structure Bat where
  C : Int
  R : Int
  G : Int
def pBat : Phi Bat := pCat Bat.C pI (pCat Bat.R pI (pCat Bat.G pI pNil))
def batB (b : Bat) : Bool := inB b.C 1 10000 && inB b.R 0 b.C && inB b.G 0 1000
theorem ct_isBattery (b : Bat) : CT Try.prog 46 [.inr (uA pBat b)] (.inl (.bool (batB b))) := by
  refine CT_of Try.func46 rfl rfl rfl (fun w => ?_)
  have hC := upC_ext w
  try any_goals (refine H_seq ?_)
  try any_goals (refine H_reg ?_)
  try any_goals (first | refine W_boxA (d := 1) (sq_stepper hC) rfl rfl rfl ?_)
  try any_goals (first | refine W_assign (d := 2) (sq_stepper hC) rfl rfl rfl ?_)
  try any_goals (refine Sq_nil ?_)
  try any_goals (refine G_then ?_)
  try any_goals (refine H_seq ?_)
  try any_goals (refine H_reg ?_)
  try any_goals (first | refine W_fieldG (d := 3) (sq_stepper hC) (Proj.head _ _ _) (by kernel_rfl) rfl rfl rfl ?_ | refine W_fieldC (d := 3) (sq_stepper hC) (off := 0) (by kernel_rfl) rfl rfl rfl ?_)
  try any_goals (first | refine W_loadI (d := 4) (sq_stepper hC) (by kernel_rfl) rfl rfl rfl ?_ | refine W_loadB (d := 4) (sq_stepper hC) (by kernel_rfl) rfl rfl rfl ?_ | refine W_loadStr (d := 4) (sq_stepper hC) (by kernel_rfl) rfl rfl rfl ?_ | refine W_loadS (d := 4) (sq_stepper hC) (by kernel_rfl) rfl rfl rfl ?_ | refine W_loadA (d := 4) (sq_stepper hC) (by kernel_rfl) rfl rfl rfl ?_)
  try any_goals (first | refine W_ct (d := 5) (sq_stepper hC) (ct_within _ _ _) rfl rfl rfl (by kernel_rfl) ?_)
  try any_goals (first | refine W_move (d := 6) (sq_stepper hC) rfl rfl rfl ?_)
  try any_goals (first | refine W_skip (d := 7) (sq_stepper hC) rfl rfl ?_ | refine W_fieldG (d := 7) (sq_stepper hC) (Proj.tail _ _ (Proj.head _ _ _)) (by kernel_rfl) rfl rfl rfl ?_ | refine W_fieldC (d := 7) (sq_stepper hC) (off := 1) (by kernel_rfl) rfl rfl rfl ?_ | (refine W_splitG (sq_stepper hC) _ rfl _ rfl (fun hq => ?_) (fun hq => ?_) <;> ((try simp only [eq_self, not_true_eq_false, not_false_eq_true, bne_self_eq_false, Bool.false_eq_true, Bool.true_eq_false, Bool.and_eq_true, Bool.or_eq_true, Bool.or_eq_false_iff, Bool.not_not, inB_t, inB_f, decide_eq_true_eq, decide_eq_false_iff_not, Bool.not_eq_true', Bool.not_eq_false', Bool.not_eq_true, Bool.not_eq_false, Int.not_lt, Int.not_le, Nat.not_lt, Nat.not_le, reduceCtorEq] at hq); try (have hq' := hq; clear hq)) <;> first | refine W_skip (d := 7) (sq_stepper hC) rfl rfl ?_ | refine W_fieldG (d := 7) (sq_stepper hC) (Proj.tail _ _ (Proj.head _ _ _)) (by kernel_rfl) rfl rfl rfl ?_ | refine W_fieldC (d := 7) (sq_stepper hC) (off := 1) (by kernel_rfl) rfl rfl rfl ?_))
  try any_goals (first | refine W_skip (d := 8) (sq_stepper hC) rfl rfl ?_ | refine W_loadI (d := 8) (sq_stepper hC) (by kernel_rfl) rfl rfl rfl ?_ | refine W_loadB (d := 8) (sq_stepper hC) (by kernel_rfl) rfl rfl rfl ?_ | refine W_loadStr (d := 8) (sq_stepper hC) (by kernel_rfl) rfl rfl rfl ?_ | refine W_loadS (d := 8) (sq_stepper hC) (by kernel_rfl) rfl rfl rfl ?_ | refine W_loadA (d := 8) (sq_stepper hC) (by kernel_rfl) rfl rfl rfl ?_ | (refine W_splitG (sq_stepper hC) _ rfl _ rfl (fun hq => ?_) (fun hq => ?_) <;> ((try simp only [eq_self, not_true_eq_false, not_false_eq_true, bne_self_eq_false, Bool.false_eq_true, Bool.true_eq_false, Bool.and_eq_true, Bool.or_eq_true, Bool.or_eq_false_iff, Bool.not_not, inB_t, inB_f, decide_eq_true_eq, decide_eq_false_iff_not, Bool.not_eq_true', Bool.not_eq_false', Bool.not_eq_true, Bool.not_eq_false, Int.not_lt, Int.not_le, Nat.not_lt, Nat.not_le, reduceCtorEq] at hq); try (have hq' := hq; clear hq)) <;> first | refine W_skip (d := 8) (sq_stepper hC) rfl rfl ?_ | refine W_loadI (d := 8) (sq_stepper hC) (by kernel_rfl) rfl rfl rfl ?_ | refine W_loadB (d := 8) (sq_stepper hC) (by kernel_rfl) rfl rfl rfl ?_ | refine W_loadStr (d := 8) (sq_stepper hC) (by kernel_rfl) rfl rfl rfl ?_ | refine W_loadS (d := 8) (sq_stepper hC) (by kernel_rfl) rfl rfl rfl ?_ | refine W_loadA (d := 8) (sq_stepper hC) (by kernel_rfl) rfl rfl rfl ?_))
  try any_goals (first | refine W_skip (d := 9) (sq_stepper hC) rfl rfl ?_ | refine W_fieldG (d := 9) (sq_stepper hC) (Proj.head _ _ _) (by kernel_rfl) rfl rfl rfl ?_ | refine W_fieldC (d := 9) (sq_stepper hC) (off := 0) (by kernel_rfl) rfl rfl rfl ?_ | (refine W_splitG (sq_stepper hC) _ rfl _ rfl (fun hq => ?_) (fun hq => ?_) <;> ((try simp only [eq_self, not_true_eq_false, not_false_eq_true, bne_self_eq_false, Bool.false_eq_true, Bool.true_eq_false, Bool.and_eq_true, Bool.or_eq_true, Bool.or_eq_false_iff, Bool.not_not, inB_t, inB_f, decide_eq_true_eq, decide_eq_false_iff_not, Bool.not_eq_true', Bool.not_eq_false', Bool.not_eq_true, Bool.not_eq_false, Int.not_lt, Int.not_le, Nat.not_lt, Nat.not_le, reduceCtorEq] at hq); try (have hq' := hq; clear hq)) <;> first | refine W_skip (d := 9) (sq_stepper hC) rfl rfl ?_ | refine W_fieldG (d := 9) (sq_stepper hC) (Proj.head _ _ _) (by kernel_rfl) rfl rfl rfl ?_ | refine W_fieldC (d := 9) (sq_stepper hC) (off := 0) (by kernel_rfl) rfl rfl rfl ?_))
  try any_goals (first | refine W_skip (d := 10) (sq_stepper hC) rfl rfl ?_ | refine W_loadI (d := 10) (sq_stepper hC) (by kernel_rfl) rfl rfl rfl ?_ | refine W_loadB (d := 10) (sq_stepper hC) (by kernel_rfl) rfl rfl rfl ?_ | refine W_loadStr (d := 10) (sq_stepper hC) (by kernel_rfl) rfl rfl rfl ?_ | refine W_loadS (d := 10) (sq_stepper hC) (by kernel_rfl) rfl rfl rfl ?_ | refine W_loadA (d := 10) (sq_stepper hC) (by kernel_rfl) rfl rfl rfl ?_ | (refine W_splitG (sq_stepper hC) _ rfl _ rfl (fun hq => ?_) (fun hq => ?_) <;> ((try simp only [eq_self, not_true_eq_false, not_false_eq_true, bne_self_eq_false, Bool.false_eq_true, Bool.true_eq_false, Bool.and_eq_true, Bool.or_eq_true, Bool.or_eq_false_iff, Bool.not_not, inB_t, inB_f, decide_eq_true_eq, decide_eq_false_iff_not, Bool.not_eq_true', Bool.not_eq_false', Bool.not_eq_true, Bool.not_eq_false, Int.not_lt, Int.not_le, Nat.not_lt, Nat.not_le, reduceCtorEq] at hq); try (have hq' := hq; clear hq)) <;> first | refine W_skip (d := 10) (sq_stepper hC) rfl rfl ?_ | refine W_loadI (d := 10) (sq_stepper hC) (by kernel_rfl) rfl rfl rfl ?_ | refine W_loadB (d := 10) (sq_stepper hC) (by kernel_rfl) rfl rfl rfl ?_ | refine W_loadStr (d := 10) (sq_stepper hC) (by kernel_rfl) rfl rfl rfl ?_ | refine W_loadS (d := 10) (sq_stepper hC) (by kernel_rfl) rfl rfl rfl ?_ | refine W_loadA (d := 10) (sq_stepper hC) (by kernel_rfl) rfl rfl rfl ?_))
  try any_goals (first | refine W_skip (d := 11) (sq_stepper hC) rfl rfl ?_ | refine W_ct (d := 11) (sq_stepper hC) (ct_within _ _ _) rfl rfl rfl (by kernel_rfl) ?_ | (refine W_splitG (sq_stepper hC) _ rfl _ rfl (fun hq => ?_) (fun hq => ?_) <;> ((try simp only [eq_self, not_true_eq_false, not_false_eq_true, bne_self_eq_false, Bool.false_eq_true, Bool.true_eq_false, Bool.and_eq_true, Bool.or_eq_true, Bool.or_eq_false_iff, Bool.not_not, inB_t, inB_f, decide_eq_true_eq, decide_eq_false_iff_not, Bool.not_eq_true', Bool.not_eq_false', Bool.not_eq_true, Bool.not_eq_false, Int.not_lt, Int.not_le, Nat.not_lt, Nat.not_le, reduceCtorEq] at hq); try (have hq' := hq; clear hq)) <;> first | refine W_skip (d := 11) (sq_stepper hC) rfl rfl ?_ | refine W_ct (d := 11) (sq_stepper hC) (ct_within _ _ _) rfl rfl rfl (by kernel_rfl) ?_))
  try any_goals (first | refine W_pickT (d := 12) (sq_stepper hC) rfl rfl rfl rfl ?_ | refine W_pickF (d := 12) (sq_stepper hC) rfl rfl rfl rfl ?_)
  try any_goals (first | refine W_move (d := 13) (sq_stepper hC) rfl rfl rfl ?_)
  try any_goals (first | refine W_skip (d := 14) (sq_stepper hC) rfl rfl ?_ | refine W_fieldG (d := 14) (sq_stepper hC) (Proj.tail _ _ (Proj.tail _ _ (Proj.head _ _ _))) (by kernel_rfl) rfl rfl rfl ?_ | refine W_fieldC (d := 14) (sq_stepper hC) (off := 2) (by kernel_rfl) rfl rfl rfl ?_ | (refine W_splitG (sq_stepper hC) _ rfl _ rfl (fun hq => ?_) (fun hq => ?_) <;> ((try simp only [eq_self, not_true_eq_false, not_false_eq_true, bne_self_eq_false, Bool.false_eq_true, Bool.true_eq_false, Bool.and_eq_true, Bool.or_eq_true, Bool.or_eq_false_iff, Bool.not_not, inB_t, inB_f, decide_eq_true_eq, decide_eq_false_iff_not, Bool.not_eq_true', Bool.not_eq_false', Bool.not_eq_true, Bool.not_eq_false, Int.not_lt, Int.not_le, Nat.not_lt, Nat.not_le, reduceCtorEq] at hq); try (have hq' := hq; clear hq)) <;> first | refine W_skip (d := 14) (sq_stepper hC) rfl rfl ?_ | refine W_fieldG (d := 14) (sq_stepper hC) (Proj.tail _ _ (Proj.tail _ _ (Proj.head _ _ _))) (by kernel_rfl) rfl rfl rfl ?_ | refine W_fieldC (d := 14) (sq_stepper hC) (off := 2) (by kernel_rfl) rfl rfl rfl ?_))
  try any_goals (first | refine W_skip (d := 15) (sq_stepper hC) rfl rfl ?_ | refine W_loadI (d := 15) (sq_stepper hC) (by kernel_rfl) rfl rfl rfl ?_ | refine W_loadB (d := 15) (sq_stepper hC) (by kernel_rfl) rfl rfl rfl ?_ | refine W_loadStr (d := 15) (sq_stepper hC) (by kernel_rfl) rfl rfl rfl ?_ | refine W_loadS (d := 15) (sq_stepper hC) (by kernel_rfl) rfl rfl rfl ?_ | refine W_loadA (d := 15) (sq_stepper hC) (by kernel_rfl) rfl rfl rfl ?_ | (refine W_splitG (sq_stepper hC) _ rfl _ rfl (fun hq => ?_) (fun hq => ?_) <;> ((try simp only [eq_self, not_true_eq_false, not_false_eq_true, bne_self_eq_false, Bool.false_eq_true, Bool.true_eq_false, Bool.and_eq_true, Bool.or_eq_true, Bool.or_eq_false_iff, Bool.not_not, inB_t, inB_f, decide_eq_true_eq, decide_eq_false_iff_not, Bool.not_eq_true', Bool.not_eq_false', Bool.not_eq_true, Bool.not_eq_false, Int.not_lt, Int.not_le, Nat.not_lt, Nat.not_le, reduceCtorEq] at hq); try (have hq' := hq; clear hq)) <;> first | refine W_skip (d := 15) (sq_stepper hC) rfl rfl ?_ | refine W_loadI (d := 15) (sq_stepper hC) (by kernel_rfl) rfl rfl rfl ?_ | refine W_loadB (d := 15) (sq_stepper hC) (by kernel_rfl) rfl rfl rfl ?_ | refine W_loadStr (d := 15) (sq_stepper hC) (by kernel_rfl) rfl rfl rfl ?_ | refine W_loadS (d := 15) (sq_stepper hC) (by kernel_rfl) rfl rfl rfl ?_ | refine W_loadA (d := 15) (sq_stepper hC) (by kernel_rfl) rfl rfl rfl ?_))
  try any_goals (first | refine W_skip (d := 16) (sq_stepper hC) rfl rfl ?_ | refine W_ct (d := 16) (sq_stepper hC) (ct_within _ _ _) rfl rfl rfl (by kernel_rfl) ?_ | (refine W_splitG (sq_stepper hC) _ rfl _ rfl (fun hq => ?_) (fun hq => ?_) <;> ((try simp only [eq_self, not_true_eq_false, not_false_eq_true, bne_self_eq_false, Bool.false_eq_true, Bool.true_eq_false, Bool.and_eq_true, Bool.or_eq_true, Bool.or_eq_false_iff, Bool.not_not, inB_t, inB_f, decide_eq_true_eq, decide_eq_false_iff_not, Bool.not_eq_true', Bool.not_eq_false', Bool.not_eq_true, Bool.not_eq_false, Int.not_lt, Int.not_le, Nat.not_lt, Nat.not_le, reduceCtorEq] at hq); try (have hq' := hq; clear hq)) <;> first | refine W_skip (d := 16) (sq_stepper hC) rfl rfl ?_ | refine W_ct (d := 16) (sq_stepper hC) (ct_within _ _ _) rfl rfl rfl (by kernel_rfl) ?_))
  try any_goals (first | refine W_pickT (d := 17) (sq_stepper hC) rfl rfl rfl rfl ?_ | refine W_pickF (d := 17) (sq_stepper hC) rfl rfl rfl rfl ?_)
  try any_goals (first | refine W_assign (d := 2) (sq_stepper hC) rfl rfl rfl ?_)
  try any_goals (refine Sq_nil ?_)
  try any_goals (refine G_then ?_)
  try any_goals (refine H_ret ?_)
  repeat (any_goals (first | refine G_ret_then ?_ | refine G_ret_block ?_))
  all_goals refine R1v rfl (fun _ h => h) rfl ?_
  all_goals (simp [batB, inB]; omega)
theorem ct_l16Battery (b : Bat) (l : Int) : CT Try.prog 43 [.inr (uA pBat b), .inl (.int .i64 l)] (.inl (.bool (batB b && inB l 0 b.C))) := by
  refine CT_of Try.func43 rfl rfl rfl (fun w => ?_)
  have hC := upC_ext w
  try any_goals (refine H_seq ?_)
  try any_goals (refine H_reg ?_)
  try any_goals (first | refine W_boxA (d := 2) (sq_stepper hC) rfl rfl rfl ?_)
  try any_goals (first | refine W_assign (d := 4) (sq_stepper hC) rfl rfl rfl ?_)
  try any_goals (refine Sq_nil ?_)
  try any_goals (refine G_then ?_)
  try any_goals (refine H_seq ?_)
  try any_goals (refine H_reg ?_)
  try any_goals (first | refine W_fieldG (d := 5) (sq_stepper hC) (Proj.head _ _ _) (by kernel_rfl) rfl rfl rfl ?_ | refine W_fieldC (d := 5) (sq_stepper hC) (off := 0) (by kernel_rfl) rfl rfl rfl ?_)
  try any_goals (first | refine W_loadI (d := 6) (sq_stepper hC) (by kernel_rfl) rfl rfl rfl ?_ | refine W_loadB (d := 6) (sq_stepper hC) (by kernel_rfl) rfl rfl rfl ?_ | refine W_loadStr (d := 6) (sq_stepper hC) (by kernel_rfl) rfl rfl rfl ?_ | refine W_loadS (d := 6) (sq_stepper hC) (by kernel_rfl) rfl rfl rfl ?_ | refine W_loadA (d := 6) (sq_stepper hC) (by kernel_rfl) rfl rfl rfl ?_)
  try any_goals (first | refine W_ct (d := 7) (sq_stepper hC) (ct_l1In _ _ _) rfl rfl rfl (by kernel_rfl) ?_)
  try any_goals (first | refine W_move (d := 8) (sq_stepper hC) rfl rfl rfl ?_)
  try any_goals (first | refine W_skip (d := 9) (sq_stepper hC) rfl rfl ?_ | refine W_fieldG (d := 9) (sq_stepper hC) (Proj.tail _ _ (Proj.head _ _ _)) (by kernel_rfl) rfl rfl rfl ?_ | refine W_fieldC (d := 9) (sq_stepper hC) (off := 1) (by kernel_rfl) rfl rfl rfl ?_ | (refine W_splitG (sq_stepper hC) _ rfl _ rfl (fun hq => ?_) (fun hq => ?_) <;> ((try simp only [eq_self, not_true_eq_false, not_false_eq_true, bne_self_eq_false, Bool.false_eq_true, Bool.true_eq_false, Bool.and_eq_true, Bool.or_eq_true, Bool.or_eq_false_iff, Bool.not_not, inB_t, inB_f, decide_eq_true_eq, decide_eq_false_iff_not, Bool.not_eq_true', Bool.not_eq_false', Bool.not_eq_true, Bool.not_eq_false, Int.not_lt, Int.not_le, Nat.not_lt, Nat.not_le, reduceCtorEq] at hq); try (have hq' := hq; clear hq)) <;> first | refine W_skip (d := 9) (sq_stepper hC) rfl rfl ?_ | refine W_fieldG (d := 9) (sq_stepper hC) (Proj.tail _ _ (Proj.head _ _ _)) (by kernel_rfl) rfl rfl rfl ?_ | refine W_fieldC (d := 9) (sq_stepper hC) (off := 1) (by kernel_rfl) rfl rfl rfl ?_))
  try any_goals (first | refine W_skip (d := 10) (sq_stepper hC) rfl rfl ?_ | refine W_loadI (d := 10) (sq_stepper hC) (by kernel_rfl) rfl rfl rfl ?_ | refine W_loadB (d := 10) (sq_stepper hC) (by kernel_rfl) rfl rfl rfl ?_ | refine W_loadStr (d := 10) (sq_stepper hC) (by kernel_rfl) rfl rfl rfl ?_ | refine W_loadS (d := 10) (sq_stepper hC) (by kernel_rfl) rfl rfl rfl ?_ | refine W_loadA (d := 10) (sq_stepper hC) (by kernel_rfl) rfl rfl rfl ?_ | (refine W_splitG (sq_stepper hC) _ rfl _ rfl (fun hq => ?_) (fun hq => ?_) <;> ((try simp only [eq_self, not_true_eq_false, not_false_eq_true, bne_self_eq_false, Bool.false_eq_true, Bool.true_eq_false, Bool.and_eq_true, Bool.or_eq_true, Bool.or_eq_false_iff, Bool.not_not, inB_t, inB_f, decide_eq_true_eq, decide_eq_false_iff_not, Bool.not_eq_true', Bool.not_eq_false', Bool.not_eq_true, Bool.not_eq_false, Int.not_lt, Int.not_le, Nat.not_lt, Nat.not_le, reduceCtorEq] at hq); try (have hq' := hq; clear hq)) <;> first | refine W_skip (d := 10) (sq_stepper hC) rfl rfl ?_ | refine W_loadI (d := 10) (sq_stepper hC) (by kernel_rfl) rfl rfl rfl ?_ | refine W_loadB (d := 10) (sq_stepper hC) (by kernel_rfl) rfl rfl rfl ?_ | refine W_loadStr (d := 10) (sq_stepper hC) (by kernel_rfl) rfl rfl rfl ?_ | refine W_loadS (d := 10) (sq_stepper hC) (by kernel_rfl) rfl rfl rfl ?_ | refine W_loadA (d := 10) (sq_stepper hC) (by kernel_rfl) rfl rfl rfl ?_))
  try any_goals (first | refine W_skip (d := 11) (sq_stepper hC) rfl rfl ?_ | refine W_fieldG (d := 11) (sq_stepper hC) (Proj.head _ _ _) (by kernel_rfl) rfl rfl rfl ?_ | refine W_fieldC (d := 11) (sq_stepper hC) (off := 0) (by kernel_rfl) rfl rfl rfl ?_ | (refine W_splitG (sq_stepper hC) _ rfl _ rfl (fun hq => ?_) (fun hq => ?_) <;> ((try simp only [eq_self, not_true_eq_false, not_false_eq_true, bne_self_eq_false, Bool.false_eq_true, Bool.true_eq_false, Bool.and_eq_true, Bool.or_eq_true, Bool.or_eq_false_iff, Bool.not_not, inB_t, inB_f, decide_eq_true_eq, decide_eq_false_iff_not, Bool.not_eq_true', Bool.not_eq_false', Bool.not_eq_true, Bool.not_eq_false, Int.not_lt, Int.not_le, Nat.not_lt, Nat.not_le, reduceCtorEq] at hq); try (have hq' := hq; clear hq)) <;> first | refine W_skip (d := 11) (sq_stepper hC) rfl rfl ?_ | refine W_fieldG (d := 11) (sq_stepper hC) (Proj.head _ _ _) (by kernel_rfl) rfl rfl rfl ?_ | refine W_fieldC (d := 11) (sq_stepper hC) (off := 0) (by kernel_rfl) rfl rfl rfl ?_))
  try any_goals (first | refine W_skip (d := 12) (sq_stepper hC) rfl rfl ?_ | refine W_loadI (d := 12) (sq_stepper hC) (by kernel_rfl) rfl rfl rfl ?_ | refine W_loadB (d := 12) (sq_stepper hC) (by kernel_rfl) rfl rfl rfl ?_ | refine W_loadStr (d := 12) (sq_stepper hC) (by kernel_rfl) rfl rfl rfl ?_ | refine W_loadS (d := 12) (sq_stepper hC) (by kernel_rfl) rfl rfl rfl ?_ | refine W_loadA (d := 12) (sq_stepper hC) (by kernel_rfl) rfl rfl rfl ?_ | (refine W_splitG (sq_stepper hC) _ rfl _ rfl (fun hq => ?_) (fun hq => ?_) <;> ((try simp only [eq_self, not_true_eq_false, not_false_eq_true, bne_self_eq_false, Bool.false_eq_true, Bool.true_eq_false, Bool.and_eq_true, Bool.or_eq_true, Bool.or_eq_false_iff, Bool.not_not, inB_t, inB_f, decide_eq_true_eq, decide_eq_false_iff_not, Bool.not_eq_true', Bool.not_eq_false', Bool.not_eq_true, Bool.not_eq_false, Int.not_lt, Int.not_le, Nat.not_lt, Nat.not_le, reduceCtorEq] at hq); try (have hq' := hq; clear hq)) <;> first | refine W_skip (d := 12) (sq_stepper hC) rfl rfl ?_ | refine W_loadI (d := 12) (sq_stepper hC) (by kernel_rfl) rfl rfl rfl ?_ | refine W_loadB (d := 12) (sq_stepper hC) (by kernel_rfl) rfl rfl rfl ?_ | refine W_loadStr (d := 12) (sq_stepper hC) (by kernel_rfl) rfl rfl rfl ?_ | refine W_loadS (d := 12) (sq_stepper hC) (by kernel_rfl) rfl rfl rfl ?_ | refine W_loadA (d := 12) (sq_stepper hC) (by kernel_rfl) rfl rfl rfl ?_))
  try any_goals (first | refine W_skip (d := 13) (sq_stepper hC) rfl rfl ?_ | refine W_ct (d := 13) (sq_stepper hC) (ct_l1In _ _ _) rfl rfl rfl (by kernel_rfl) ?_ | (refine W_splitG (sq_stepper hC) _ rfl _ rfl (fun hq => ?_) (fun hq => ?_) <;> ((try simp only [eq_self, not_true_eq_false, not_false_eq_true, bne_self_eq_false, Bool.false_eq_true, Bool.true_eq_false, Bool.and_eq_true, Bool.or_eq_true, Bool.or_eq_false_iff, Bool.not_not, inB_t, inB_f, decide_eq_true_eq, decide_eq_false_iff_not, Bool.not_eq_true', Bool.not_eq_false', Bool.not_eq_true, Bool.not_eq_false, Int.not_lt, Int.not_le, Nat.not_lt, Nat.not_le, reduceCtorEq] at hq); try (have hq' := hq; clear hq)) <;> first | refine W_skip (d := 13) (sq_stepper hC) rfl rfl ?_ | refine W_ct (d := 13) (sq_stepper hC) (ct_l1In _ _ _) rfl rfl rfl (by kernel_rfl) ?_))
  try any_goals (first | refine W_pickT (d := 14) (sq_stepper hC) rfl rfl rfl rfl ?_ | refine W_pickF (d := 14) (sq_stepper hC) rfl rfl rfl rfl ?_)
  try any_goals (first | refine W_move (d := 15) (sq_stepper hC) rfl rfl rfl ?_)
  try any_goals (first | refine W_skip (d := 16) (sq_stepper hC) rfl rfl ?_ | refine W_fieldG (d := 16) (sq_stepper hC) (Proj.tail _ _ (Proj.tail _ _ (Proj.head _ _ _))) (by kernel_rfl) rfl rfl rfl ?_ | refine W_fieldC (d := 16) (sq_stepper hC) (off := 2) (by kernel_rfl) rfl rfl rfl ?_ | (refine W_splitG (sq_stepper hC) _ rfl _ rfl (fun hq => ?_) (fun hq => ?_) <;> ((try simp only [eq_self, not_true_eq_false, not_false_eq_true, bne_self_eq_false, Bool.false_eq_true, Bool.true_eq_false, Bool.and_eq_true, Bool.or_eq_true, Bool.or_eq_false_iff, Bool.not_not, inB_t, inB_f, decide_eq_true_eq, decide_eq_false_iff_not, Bool.not_eq_true', Bool.not_eq_false', Bool.not_eq_true, Bool.not_eq_false, Int.not_lt, Int.not_le, Nat.not_lt, Nat.not_le, reduceCtorEq] at hq); try (have hq' := hq; clear hq)) <;> first | refine W_skip (d := 16) (sq_stepper hC) rfl rfl ?_ | refine W_fieldG (d := 16) (sq_stepper hC) (Proj.tail _ _ (Proj.tail _ _ (Proj.head _ _ _))) (by kernel_rfl) rfl rfl rfl ?_ | refine W_fieldC (d := 16) (sq_stepper hC) (off := 2) (by kernel_rfl) rfl rfl rfl ?_))
  try any_goals (first | refine W_skip (d := 17) (sq_stepper hC) rfl rfl ?_ | refine W_loadI (d := 17) (sq_stepper hC) (by kernel_rfl) rfl rfl rfl ?_ | refine W_loadB (d := 17) (sq_stepper hC) (by kernel_rfl) rfl rfl rfl ?_ | refine W_loadStr (d := 17) (sq_stepper hC) (by kernel_rfl) rfl rfl rfl ?_ | refine W_loadS (d := 17) (sq_stepper hC) (by kernel_rfl) rfl rfl rfl ?_ | refine W_loadA (d := 17) (sq_stepper hC) (by kernel_rfl) rfl rfl rfl ?_ | (refine W_splitG (sq_stepper hC) _ rfl _ rfl (fun hq => ?_) (fun hq => ?_) <;> ((try simp only [eq_self, not_true_eq_false, not_false_eq_true, bne_self_eq_false, Bool.false_eq_true, Bool.true_eq_false, Bool.and_eq_true, Bool.or_eq_true, Bool.or_eq_false_iff, Bool.not_not, inB_t, inB_f, decide_eq_true_eq, decide_eq_false_iff_not, Bool.not_eq_true', Bool.not_eq_false', Bool.not_eq_true, Bool.not_eq_false, Int.not_lt, Int.not_le, Nat.not_lt, Nat.not_le, reduceCtorEq] at hq); try (have hq' := hq; clear hq)) <;> first | refine W_skip (d := 17) (sq_stepper hC) rfl rfl ?_ | refine W_loadI (d := 17) (sq_stepper hC) (by kernel_rfl) rfl rfl rfl ?_ | refine W_loadB (d := 17) (sq_stepper hC) (by kernel_rfl) rfl rfl rfl ?_ | refine W_loadStr (d := 17) (sq_stepper hC) (by kernel_rfl) rfl rfl rfl ?_ | refine W_loadS (d := 17) (sq_stepper hC) (by kernel_rfl) rfl rfl rfl ?_ | refine W_loadA (d := 17) (sq_stepper hC) (by kernel_rfl) rfl rfl rfl ?_))
  try any_goals (first | refine W_skip (d := 18) (sq_stepper hC) rfl rfl ?_ | refine W_ct (d := 18) (sq_stepper hC) (ct_l1In _ _ _) rfl rfl rfl (by kernel_rfl) ?_ | (refine W_splitG (sq_stepper hC) _ rfl _ rfl (fun hq => ?_) (fun hq => ?_) <;> ((try simp only [eq_self, not_true_eq_false, not_false_eq_true, bne_self_eq_false, Bool.false_eq_true, Bool.true_eq_false, Bool.and_eq_true, Bool.or_eq_true, Bool.or_eq_false_iff, Bool.not_not, inB_t, inB_f, decide_eq_true_eq, decide_eq_false_iff_not, Bool.not_eq_true', Bool.not_eq_false', Bool.not_eq_true, Bool.not_eq_false, Int.not_lt, Int.not_le, Nat.not_lt, Nat.not_le, reduceCtorEq] at hq); try (have hq' := hq; clear hq)) <;> first | refine W_skip (d := 18) (sq_stepper hC) rfl rfl ?_ | refine W_ct (d := 18) (sq_stepper hC) (ct_l1In _ _ _) rfl rfl rfl (by kernel_rfl) ?_))
  try any_goals (first | refine W_pickT (d := 19) (sq_stepper hC) rfl rfl rfl rfl ?_ | refine W_pickF (d := 19) (sq_stepper hC) rfl rfl rfl rfl ?_)
  try any_goals (first | refine W_move (d := 20) (sq_stepper hC) rfl rfl rfl ?_)
  try any_goals (first | refine W_skip (d := 21) (sq_stepper hC) rfl rfl ?_ | refine W_move (d := 21) (sq_stepper hC) rfl rfl rfl ?_ | (refine W_splitG (sq_stepper hC) _ rfl _ rfl (fun hq => ?_) (fun hq => ?_) <;> ((try simp only [eq_self, not_true_eq_false, not_false_eq_true, bne_self_eq_false, Bool.false_eq_true, Bool.true_eq_false, Bool.and_eq_true, Bool.or_eq_true, Bool.or_eq_false_iff, Bool.not_not, inB_t, inB_f, decide_eq_true_eq, decide_eq_false_iff_not, Bool.not_eq_true', Bool.not_eq_false', Bool.not_eq_true, Bool.not_eq_false, Int.not_lt, Int.not_le, Nat.not_lt, Nat.not_le, reduceCtorEq] at hq); try (have hq' := hq; clear hq)) <;> first | refine W_skip (d := 21) (sq_stepper hC) rfl rfl ?_ | refine W_move (d := 21) (sq_stepper hC) rfl rfl rfl ?_))
  try any_goals (first | refine W_skip (d := 22) (sq_stepper hC) rfl rfl ?_ | refine W_fieldG (d := 22) (sq_stepper hC) (Proj.head _ _ _) (by kernel_rfl) rfl rfl rfl ?_ | refine W_fieldC (d := 22) (sq_stepper hC) (off := 0) (by kernel_rfl) rfl rfl rfl ?_ | (refine W_splitG (sq_stepper hC) _ rfl _ rfl (fun hq => ?_) (fun hq => ?_) <;> ((try simp only [eq_self, not_true_eq_false, not_false_eq_true, bne_self_eq_false, Bool.false_eq_true, Bool.true_eq_false, Bool.and_eq_true, Bool.or_eq_true, Bool.or_eq_false_iff, Bool.not_not, inB_t, inB_f, decide_eq_true_eq, decide_eq_false_iff_not, Bool.not_eq_true', Bool.not_eq_false', Bool.not_eq_true, Bool.not_eq_false, Int.not_lt, Int.not_le, Nat.not_lt, Nat.not_le, reduceCtorEq] at hq); try (have hq' := hq; clear hq)) <;> first | refine W_skip (d := 22) (sq_stepper hC) rfl rfl ?_ | refine W_fieldG (d := 22) (sq_stepper hC) (Proj.head _ _ _) (by kernel_rfl) rfl rfl rfl ?_ | refine W_fieldC (d := 22) (sq_stepper hC) (off := 0) (by kernel_rfl) rfl rfl rfl ?_))
  try any_goals (first | refine W_skip (d := 23) (sq_stepper hC) rfl rfl ?_ | refine W_loadI (d := 23) (sq_stepper hC) (by kernel_rfl) rfl rfl rfl ?_ | refine W_loadB (d := 23) (sq_stepper hC) (by kernel_rfl) rfl rfl rfl ?_ | refine W_loadStr (d := 23) (sq_stepper hC) (by kernel_rfl) rfl rfl rfl ?_ | refine W_loadS (d := 23) (sq_stepper hC) (by kernel_rfl) rfl rfl rfl ?_ | refine W_loadA (d := 23) (sq_stepper hC) (by kernel_rfl) rfl rfl rfl ?_ | (refine W_splitG (sq_stepper hC) _ rfl _ rfl (fun hq => ?_) (fun hq => ?_) <;> ((try simp only [eq_self, not_true_eq_false, not_false_eq_true, bne_self_eq_false, Bool.false_eq_true, Bool.true_eq_false, Bool.and_eq_true, Bool.or_eq_true, Bool.or_eq_false_iff, Bool.not_not, inB_t, inB_f, decide_eq_true_eq, decide_eq_false_iff_not, Bool.not_eq_true', Bool.not_eq_false', Bool.not_eq_true, Bool.not_eq_false, Int.not_lt, Int.not_le, Nat.not_lt, Nat.not_le, reduceCtorEq] at hq); try (have hq' := hq; clear hq)) <;> first | refine W_skip (d := 23) (sq_stepper hC) rfl rfl ?_ | refine W_loadI (d := 23) (sq_stepper hC) (by kernel_rfl) rfl rfl rfl ?_ | refine W_loadB (d := 23) (sq_stepper hC) (by kernel_rfl) rfl rfl rfl ?_ | refine W_loadStr (d := 23) (sq_stepper hC) (by kernel_rfl) rfl rfl rfl ?_ | refine W_loadS (d := 23) (sq_stepper hC) (by kernel_rfl) rfl rfl rfl ?_ | refine W_loadA (d := 23) (sq_stepper hC) (by kernel_rfl) rfl rfl rfl ?_))
  try any_goals (first | refine W_skip (d := 24) (sq_stepper hC) rfl rfl ?_ | refine W_ct (d := 24) (sq_stepper hC) (ct_l1In _ _ _) rfl rfl rfl (by kernel_rfl) ?_ | (refine W_splitG (sq_stepper hC) _ rfl _ rfl (fun hq => ?_) (fun hq => ?_) <;> ((try simp only [eq_self, not_true_eq_false, not_false_eq_true, bne_self_eq_false, Bool.false_eq_true, Bool.true_eq_false, Bool.and_eq_true, Bool.or_eq_true, Bool.or_eq_false_iff, Bool.not_not, inB_t, inB_f, decide_eq_true_eq, decide_eq_false_iff_not, Bool.not_eq_true', Bool.not_eq_false', Bool.not_eq_true, Bool.not_eq_false, Int.not_lt, Int.not_le, Nat.not_lt, Nat.not_le, reduceCtorEq] at hq); try (have hq' := hq; clear hq)) <;> first | refine W_skip (d := 24) (sq_stepper hC) rfl rfl ?_ | refine W_ct (d := 24) (sq_stepper hC) (ct_l1In _ _ _) rfl rfl rfl (by kernel_rfl) ?_))
  try any_goals (first | refine W_pickT (d := 25) (sq_stepper hC) rfl rfl rfl rfl ?_ | refine W_pickF (d := 25) (sq_stepper hC) rfl rfl rfl rfl ?_)
  try any_goals (first | refine W_assign (d := 4) (sq_stepper hC) rfl rfl rfl ?_)
  try any_goals (refine Sq_nil ?_)
  try any_goals (refine G_then ?_)
  try any_goals (refine H_ret ?_)
  repeat (any_goals (first | refine G_ret_then ?_ | refine G_ret_block ?_))
  all_goals refine R1v rfl (fun _ h => h) rfl ?_
  all_goals (simp [batB, inB]; omega)
theorem batB_t (b : Bat) : (batB b = true) = (1 ≤ b.C ∧ b.C ≤ 10000 ∧ 0 ≤ b.R ∧ b.R ≤ b.C ∧ 0 ≤ b.G ∧ b.G ≤ 1000) := by simp [batB, inB, and_assoc]
theorem batB_f (b : Bat) : (batB b = false) = ¬ (1 ≤ b.C ∧ b.C ≤ 10000 ∧ 0 ≤ b.R ∧ b.R ≤ b.C ∧ 0 ≤ b.G ∧ b.G ≤ 1000) := by rw [← batB_t]; simp
def rlOk (b : Bat) (l p : Int) : Bool := batB b && inB l 0 b.C && inB p 1 1000
theorem rlOk_t (b : Bat) (l p : Int) : (rlOk b l p = true) = ((1 ≤ b.C ∧ b.C ≤ 10000 ∧ 0 ≤ b.R ∧ b.R ≤ b.C ∧ 0 ≤ b.G ∧ b.G ≤ 1000) ∧ (0 ≤ l ∧ l ≤ b.C) ∧ 1 ≤ p ∧ p ≤ 1000) := by simp only [rlOk, Bool.and_eq_true, batB_t, inB_t, and_assoc]
theorem rlOk_f (b : Bat) (l p : Int) : (rlOk b l p = false) = ¬ ((1 ≤ b.C ∧ b.C ≤ 10000 ∧ 0 ≤ b.R ∧ b.R ≤ b.C ∧ 0 ≤ b.G ∧ b.G ≤ 1000) ∧ (0 ≤ l ∧ l ≤ b.C) ∧ 1 ≤ p ∧ p ≤ 1000) := by rw [← rlOk_t]; simp
def rl (b : Bat) (l p : Int) : Int := if rlOk b l p = true then max (l - b.R) 0 / p else 0
theorem ct_sRange (b : Bat) (l p : Int) : CT Try.prog 12 [.inr (uA pBat b), .inl (.int .i64 l), .inl (.int .i64 p)] (.inr (uT [.inl (.int .i64 (rl b l p)), .inl (.bool (rlOk b l p))])) := by
  refine CT_of Try.func12 rfl rfl rfl (fun w => ?_)
  have hC := upC_ext w
  try any_goals (refine H_seq ?_)
  try any_goals (refine H_reg ?_)
  try any_goals (first | refine W_boxA (d := 3) (sq_stepper hC) rfl rfl rfl ?_)
  try any_goals (first | refine W_assign (d := 6) (sq_stepper hC) rfl rfl rfl ?_)
  try any_goals (first | refine W_assign (d := 7) (sq_stepper hC) rfl rfl rfl ?_)
  try any_goals (refine Sq_nil ?_)
  try any_goals (refine G_then ?_)
  try any_goals (refine H_seq ?_)
  try any_goals (refine H_seq ?_)
  try any_goals (refine H_reg ?_)
  try any_goals (first | refine W_loadI (d := 8) (sq_stepper hC) (by kernel_rfl) rfl rfl rfl ?_ | refine W_loadB (d := 8) (sq_stepper hC) (by kernel_rfl) rfl rfl rfl ?_ | refine W_loadStr (d := 8) (sq_stepper hC) (by kernel_rfl) rfl rfl rfl ?_ | refine W_loadS (d := 8) (sq_stepper hC) (by kernel_rfl) rfl rfl rfl ?_ | refine W_loadA (d := 8) (sq_stepper hC) (by kernel_rfl) rfl rfl rfl ?_)
  try any_goals (first | refine W_move (d := 9) (sq_stepper hC) rfl rfl rfl ?_)
  try any_goals (first | refine W_ct (d := 10) (sq_stepper hC) (ct_l16Battery _ _) rfl rfl rfl (by kernel_rfl) ?_)
  try any_goals (first | refine W_not (d := 11) (sq_stepper hC) rfl rfl rfl ?_)
  try any_goals (first | refine W_move (d := 12) (sq_stepper hC) rfl rfl rfl ?_)
  try any_goals (first | refine W_skip (d := 13) (sq_stepper hC) rfl rfl ?_ | refine W_move (d := 13) (sq_stepper hC) rfl rfl rfl ?_ | (refine W_splitG (sq_stepper hC) _ rfl _ rfl (fun hq => ?_) (fun hq => ?_) <;> ((try simp only [eq_self, not_true_eq_false, not_false_eq_true, bne_self_eq_false, Bool.false_eq_true, Bool.true_eq_false, Bool.and_eq_true, Bool.or_eq_true, Bool.or_eq_false_iff, Bool.not_not, inB_t, inB_f, decide_eq_true_eq, decide_eq_false_iff_not, Bool.not_eq_true', Bool.not_eq_false', Bool.not_eq_true, Bool.not_eq_false, Int.not_lt, Int.not_le, Nat.not_lt, Nat.not_le, reduceCtorEq, batB_t, batB_f, Bool.and_eq_false_iff] at hq); try (have hq' := hq; clear hq)) <;> first | refine W_skip (d := 13) (sq_stepper hC) rfl rfl ?_ | refine W_move (d := 13) (sq_stepper hC) rfl rfl rfl ?_))
  try any_goals (first | refine W_skip (d := 14) (sq_stepper hC) rfl rfl ?_ | refine W_ct (d := 14) (sq_stepper hC) (ct_l1In _ _ _) rfl rfl rfl (by kernel_rfl) ?_ | (refine W_splitG (sq_stepper hC) _ rfl _ rfl (fun hq => ?_) (fun hq => ?_) <;> ((try simp only [eq_self, not_true_eq_false, not_false_eq_true, bne_self_eq_false, Bool.false_eq_true, Bool.true_eq_false, Bool.and_eq_true, Bool.or_eq_true, Bool.or_eq_false_iff, Bool.not_not, inB_t, inB_f, decide_eq_true_eq, decide_eq_false_iff_not, Bool.not_eq_true', Bool.not_eq_false', Bool.not_eq_true, Bool.not_eq_false, Int.not_lt, Int.not_le, Nat.not_lt, Nat.not_le, reduceCtorEq, batB_t, batB_f, Bool.and_eq_false_iff] at hq); try (have hq' := hq; clear hq)) <;> first | refine W_skip (d := 14) (sq_stepper hC) rfl rfl ?_ | refine W_ct (d := 14) (sq_stepper hC) (ct_l1In _ _ _) rfl rfl rfl (by kernel_rfl) ?_))
  try any_goals (first | refine W_skip (d := 15) (sq_stepper hC) rfl rfl ?_ | refine W_not (d := 15) (sq_stepper hC) rfl rfl rfl ?_ | (refine W_splitG (sq_stepper hC) _ rfl _ rfl (fun hq => ?_) (fun hq => ?_) <;> ((try simp only [eq_self, not_true_eq_false, not_false_eq_true, bne_self_eq_false, Bool.false_eq_true, Bool.true_eq_false, Bool.and_eq_true, Bool.or_eq_true, Bool.or_eq_false_iff, Bool.not_not, inB_t, inB_f, decide_eq_true_eq, decide_eq_false_iff_not, Bool.not_eq_true', Bool.not_eq_false', Bool.not_eq_true, Bool.not_eq_false, Int.not_lt, Int.not_le, Nat.not_lt, Nat.not_le, reduceCtorEq, batB_t, batB_f, Bool.and_eq_false_iff] at hq); try (have hq' := hq; clear hq)) <;> first | refine W_skip (d := 15) (sq_stepper hC) rfl rfl ?_ | refine W_not (d := 15) (sq_stepper hC) rfl rfl rfl ?_))
  try any_goals (first | refine W_pickT (d := 16) (sq_stepper hC) rfl rfl rfl rfl ?_ | refine W_pickF (d := 16) (sq_stepper hC) rfl rfl rfl rfl ?_)
  try any_goals (refine Sq_nil ?_)
  try any_goals (refine G_then ?_)
  try any_goals (first | refine H_condT rfl ?_ | refine H_condF rfl ?_ | (refine H_cond _ rfl (fun hq => ?_) (fun hq => ?_) <;> (try simp only [eq_self, not_true_eq_false, not_false_eq_true, bne_self_eq_false, Bool.false_eq_true, Bool.true_eq_false, Bool.and_eq_true, Bool.or_eq_true, Bool.or_eq_false_iff, Bool.not_not, inB_t, inB_f, decide_eq_true_eq, decide_eq_false_iff_not, Bool.not_eq_true', Bool.not_eq_false', Bool.not_eq_true, Bool.not_eq_false, Int.not_lt, Int.not_le, Nat.not_lt, Nat.not_le, reduceCtorEq, batB_t, batB_f, Bool.and_eq_false_iff] at hq)))
  try any_goals (refine H_seq ?_)
  try any_goals (refine H_reg ?_)
  try any_goals (first | refine W_assign (d := 6) (sq_stepper hC) rfl rfl rfl ?_)
  try any_goals (first | refine W_assign (d := 7) (sq_stepper hC) rfl rfl rfl ?_)
  try any_goals (refine Sq_nil ?_)
  try any_goals (refine G_then ?_)
  try any_goals (refine H_ret ?_)
  repeat (any_goals (first | refine G_ret_then ?_ | refine G_ret_block ?_))
  try any_goals (refine H_skip ?_)
  try any_goals (refine G_then ?_)
  try any_goals (refine H_seq ?_)
  try any_goals (refine H_reg ?_)
  try any_goals (first | refine W_move (d := 17) (sq_stepper hC) rfl rfl rfl ?_)
  try any_goals (first | refine W_fieldG (d := 18) (sq_stepper hC) (Proj.tail _ _ (Proj.head _ _ _)) (by kernel_rfl) rfl rfl rfl ?_ | refine W_fieldC (d := 18) (sq_stepper hC) (off := 1) (by kernel_rfl) rfl rfl rfl ?_)
  try any_goals (first | refine W_loadI (d := 19) (sq_stepper hC) (by kernel_rfl) rfl rfl rfl ?_ | refine W_loadB (d := 19) (sq_stepper hC) (by kernel_rfl) rfl rfl rfl ?_ | refine W_loadStr (d := 19) (sq_stepper hC) (by kernel_rfl) rfl rfl rfl ?_ | refine W_loadS (d := 19) (sq_stepper hC) (by kernel_rfl) rfl rfl rfl ?_ | refine W_loadA (d := 19) (sq_stepper hC) (by kernel_rfl) rfl rfl rfl ?_)
  try any_goals (first | refine W_ar (d := 20) (sq_stepper hC) rfl rfl rfl rfl rfl (by first | omega | (dsimp only; omega)) ?_)
  try any_goals (first | refine W_ct (d := 21) (sq_stepper hC) (ct_l1Most _ _) rfl rfl rfl (by kernel_rfl) ?_)
  try any_goals (first | refine W_move (d := 22) (sq_stepper hC) rfl rfl rfl ?_)
  try any_goals (first | refine W_quo (d := 23) (sq_stepper hC) rfl rfl rfl rfl (by first | omega | (dsimp only; omega)) ?_)
  try any_goals (first | refine W_assign (d := 6) (sq_stepper hC) rfl rfl rfl ?_)
  try any_goals (first | refine W_assign (d := 7) (sq_stepper hC) rfl rfl rfl ?_)
  try any_goals (refine Sq_nil ?_)
  try any_goals (refine G_then ?_)
  try any_goals (refine H_ret ?_)
  repeat (any_goals (first | refine G_ret_then ?_ | refine G_ret_block ?_))
  all_goals refine R2v rfl (fun _ h => h) rfl rfl ?_ ?_
  all_goals (cases h : rlOk b l p <;> (try simp only [rl, h, if_true, if_false, Bool.false_eq_true]) <;> (try simp only [rlOk_t, rlOk_f] at h) <;> first | rfl | omega | (congr 2; omega))
theorem ct_iRange (b : Bat) (l p : Int) : CT Try.prog 14 [.inr (uA pBat b), .inl (.int .i64 l), .inl (.int .i64 p)] (.inr (uT [.inl (.int .i64 (rl b l p)), .inl (.bool (rlOk b l p))])) := by
  refine CT_of Try.func14 rfl rfl rfl (fun w => ?_)
  have hC := upC_ext w
  try any_goals (refine H_seq ?_)
  try any_goals (refine H_reg ?_)
  try any_goals (first | refine W_boxA (d := 3) (sq_stepper hC) rfl rfl rfl ?_)
  try any_goals (first | refine W_assign (d := 6) (sq_stepper hC) rfl rfl rfl ?_)
  try any_goals (first | refine W_assign (d := 7) (sq_stepper hC) rfl rfl rfl ?_)
  try any_goals (refine Sq_nil ?_)
  try any_goals (refine G_then ?_)
  try any_goals (refine H_seq ?_)
  try any_goals (refine H_seq ?_)
  try any_goals (refine H_reg ?_)
  try any_goals (first | refine W_loadI (d := 8) (sq_stepper hC) (by kernel_rfl) rfl rfl rfl ?_ | refine W_loadB (d := 8) (sq_stepper hC) (by kernel_rfl) rfl rfl rfl ?_ | refine W_loadStr (d := 8) (sq_stepper hC) (by kernel_rfl) rfl rfl rfl ?_ | refine W_loadS (d := 8) (sq_stepper hC) (by kernel_rfl) rfl rfl rfl ?_ | refine W_loadA (d := 8) (sq_stepper hC) (by kernel_rfl) rfl rfl rfl ?_)
  try any_goals (first | refine W_ct (d := 9) (sq_stepper hC) (ct_isBattery _) rfl rfl rfl (by kernel_rfl) ?_)
  try any_goals (first | refine W_not (d := 10) (sq_stepper hC) rfl rfl rfl ?_)
  try any_goals (first | refine W_move (d := 11) (sq_stepper hC) rfl rfl rfl ?_)
  try any_goals (first | refine W_skip (d := 12) (sq_stepper hC) rfl rfl ?_ | refine W_move (d := 12) (sq_stepper hC) rfl rfl rfl ?_ | (refine W_splitG (sq_stepper hC) _ rfl _ rfl (fun hq => ?_) (fun hq => ?_) <;> ((try simp only [eq_self, not_true_eq_false, not_false_eq_true, bne_self_eq_false, Bool.false_eq_true, Bool.true_eq_false, Bool.and_eq_true, Bool.or_eq_true, Bool.or_eq_false_iff, Bool.not_not, inB_t, inB_f, decide_eq_true_eq, decide_eq_false_iff_not, Bool.not_eq_true', Bool.not_eq_false', Bool.not_eq_true, Bool.not_eq_false, Int.not_lt, Int.not_le, Nat.not_lt, Nat.not_le, reduceCtorEq, batB_t, batB_f, Bool.and_eq_false_iff] at hq); try (have hq' := hq; clear hq)) <;> first | refine W_skip (d := 12) (sq_stepper hC) rfl rfl ?_ | refine W_move (d := 12) (sq_stepper hC) rfl rfl rfl ?_))
  try any_goals (first | refine W_skip (d := 13) (sq_stepper hC) rfl rfl ?_ | refine W_fieldG (d := 13) (sq_stepper hC) (Proj.head _ _ _) (by kernel_rfl) rfl rfl rfl ?_ | refine W_fieldC (d := 13) (sq_stepper hC) (off := 0) (by kernel_rfl) rfl rfl rfl ?_ | (refine W_splitG (sq_stepper hC) _ rfl _ rfl (fun hq => ?_) (fun hq => ?_) <;> ((try simp only [eq_self, not_true_eq_false, not_false_eq_true, bne_self_eq_false, Bool.false_eq_true, Bool.true_eq_false, Bool.and_eq_true, Bool.or_eq_true, Bool.or_eq_false_iff, Bool.not_not, inB_t, inB_f, decide_eq_true_eq, decide_eq_false_iff_not, Bool.not_eq_true', Bool.not_eq_false', Bool.not_eq_true, Bool.not_eq_false, Int.not_lt, Int.not_le, Nat.not_lt, Nat.not_le, reduceCtorEq, batB_t, batB_f, Bool.and_eq_false_iff] at hq); try (have hq' := hq; clear hq)) <;> first | refine W_skip (d := 13) (sq_stepper hC) rfl rfl ?_ | refine W_fieldG (d := 13) (sq_stepper hC) (Proj.head _ _ _) (by kernel_rfl) rfl rfl rfl ?_ | refine W_fieldC (d := 13) (sq_stepper hC) (off := 0) (by kernel_rfl) rfl rfl rfl ?_))
  try any_goals (first | refine W_skip (d := 14) (sq_stepper hC) rfl rfl ?_ | refine W_loadI (d := 14) (sq_stepper hC) (by kernel_rfl) rfl rfl rfl ?_ | refine W_loadB (d := 14) (sq_stepper hC) (by kernel_rfl) rfl rfl rfl ?_ | refine W_loadStr (d := 14) (sq_stepper hC) (by kernel_rfl) rfl rfl rfl ?_ | refine W_loadS (d := 14) (sq_stepper hC) (by kernel_rfl) rfl rfl rfl ?_ | refine W_loadA (d := 14) (sq_stepper hC) (by kernel_rfl) rfl rfl rfl ?_ | (refine W_splitG (sq_stepper hC) _ rfl _ rfl (fun hq => ?_) (fun hq => ?_) <;> ((try simp only [eq_self, not_true_eq_false, not_false_eq_true, bne_self_eq_false, Bool.false_eq_true, Bool.true_eq_false, Bool.and_eq_true, Bool.or_eq_true, Bool.or_eq_false_iff, Bool.not_not, inB_t, inB_f, decide_eq_true_eq, decide_eq_false_iff_not, Bool.not_eq_true', Bool.not_eq_false', Bool.not_eq_true, Bool.not_eq_false, Int.not_lt, Int.not_le, Nat.not_lt, Nat.not_le, reduceCtorEq, batB_t, batB_f, Bool.and_eq_false_iff] at hq); try (have hq' := hq; clear hq)) <;> first | refine W_skip (d := 14) (sq_stepper hC) rfl rfl ?_ | refine W_loadI (d := 14) (sq_stepper hC) (by kernel_rfl) rfl rfl rfl ?_ | refine W_loadB (d := 14) (sq_stepper hC) (by kernel_rfl) rfl rfl rfl ?_ | refine W_loadStr (d := 14) (sq_stepper hC) (by kernel_rfl) rfl rfl rfl ?_ | refine W_loadS (d := 14) (sq_stepper hC) (by kernel_rfl) rfl rfl rfl ?_ | refine W_loadA (d := 14) (sq_stepper hC) (by kernel_rfl) rfl rfl rfl ?_))
  try any_goals (first | refine W_skip (d := 15) (sq_stepper hC) rfl rfl ?_ | refine W_ct (d := 15) (sq_stepper hC) (ct_within _ _ _) rfl rfl rfl (by kernel_rfl) ?_ | (refine W_splitG (sq_stepper hC) _ rfl _ rfl (fun hq => ?_) (fun hq => ?_) <;> ((try simp only [eq_self, not_true_eq_false, not_false_eq_true, bne_self_eq_false, Bool.false_eq_true, Bool.true_eq_false, Bool.and_eq_true, Bool.or_eq_true, Bool.or_eq_false_iff, Bool.not_not, inB_t, inB_f, decide_eq_true_eq, decide_eq_false_iff_not, Bool.not_eq_true', Bool.not_eq_false', Bool.not_eq_true, Bool.not_eq_false, Int.not_lt, Int.not_le, Nat.not_lt, Nat.not_le, reduceCtorEq, batB_t, batB_f, Bool.and_eq_false_iff] at hq); try (have hq' := hq; clear hq)) <;> first | refine W_skip (d := 15) (sq_stepper hC) rfl rfl ?_ | refine W_ct (d := 15) (sq_stepper hC) (ct_within _ _ _) rfl rfl rfl (by kernel_rfl) ?_))
  try any_goals (first | refine W_skip (d := 16) (sq_stepper hC) rfl rfl ?_ | refine W_not (d := 16) (sq_stepper hC) rfl rfl rfl ?_ | (refine W_splitG (sq_stepper hC) _ rfl _ rfl (fun hq => ?_) (fun hq => ?_) <;> ((try simp only [eq_self, not_true_eq_false, not_false_eq_true, bne_self_eq_false, Bool.false_eq_true, Bool.true_eq_false, Bool.and_eq_true, Bool.or_eq_true, Bool.or_eq_false_iff, Bool.not_not, inB_t, inB_f, decide_eq_true_eq, decide_eq_false_iff_not, Bool.not_eq_true', Bool.not_eq_false', Bool.not_eq_true, Bool.not_eq_false, Int.not_lt, Int.not_le, Nat.not_lt, Nat.not_le, reduceCtorEq, batB_t, batB_f, Bool.and_eq_false_iff] at hq); try (have hq' := hq; clear hq)) <;> first | refine W_skip (d := 16) (sq_stepper hC) rfl rfl ?_ | refine W_not (d := 16) (sq_stepper hC) rfl rfl rfl ?_))
  try any_goals (first | refine W_pickT (d := 17) (sq_stepper hC) rfl rfl rfl rfl ?_ | refine W_pickF (d := 17) (sq_stepper hC) rfl rfl rfl rfl ?_)
  try any_goals (first | refine W_move (d := 18) (sq_stepper hC) rfl rfl rfl ?_)
  try any_goals (first | refine W_skip (d := 19) (sq_stepper hC) rfl rfl ?_ | refine W_move (d := 19) (sq_stepper hC) rfl rfl rfl ?_ | (refine W_splitG (sq_stepper hC) _ rfl _ rfl (fun hq => ?_) (fun hq => ?_) <;> ((try simp only [eq_self, not_true_eq_false, not_false_eq_true, bne_self_eq_false, Bool.false_eq_true, Bool.true_eq_false, Bool.and_eq_true, Bool.or_eq_true, Bool.or_eq_false_iff, Bool.not_not, inB_t, inB_f, decide_eq_true_eq, decide_eq_false_iff_not, Bool.not_eq_true', Bool.not_eq_false', Bool.not_eq_true, Bool.not_eq_false, Int.not_lt, Int.not_le, Nat.not_lt, Nat.not_le, reduceCtorEq, batB_t, batB_f, Bool.and_eq_false_iff] at hq); try (have hq' := hq; clear hq)) <;> first | refine W_skip (d := 19) (sq_stepper hC) rfl rfl ?_ | refine W_move (d := 19) (sq_stepper hC) rfl rfl rfl ?_))
  try any_goals (first | refine W_skip (d := 20) (sq_stepper hC) rfl rfl ?_ | refine W_ct (d := 20) (sq_stepper hC) (ct_within _ _ _) rfl rfl rfl (by kernel_rfl) ?_ | (refine W_splitG (sq_stepper hC) _ rfl _ rfl (fun hq => ?_) (fun hq => ?_) <;> ((try simp only [eq_self, not_true_eq_false, not_false_eq_true, bne_self_eq_false, Bool.false_eq_true, Bool.true_eq_false, Bool.and_eq_true, Bool.or_eq_true, Bool.or_eq_false_iff, Bool.not_not, inB_t, inB_f, decide_eq_true_eq, decide_eq_false_iff_not, Bool.not_eq_true', Bool.not_eq_false', Bool.not_eq_true, Bool.not_eq_false, Int.not_lt, Int.not_le, Nat.not_lt, Nat.not_le, reduceCtorEq, batB_t, batB_f, Bool.and_eq_false_iff] at hq); try (have hq' := hq; clear hq)) <;> first | refine W_skip (d := 20) (sq_stepper hC) rfl rfl ?_ | refine W_ct (d := 20) (sq_stepper hC) (ct_within _ _ _) rfl rfl rfl (by kernel_rfl) ?_))
  try any_goals (first | refine W_skip (d := 21) (sq_stepper hC) rfl rfl ?_ | refine W_not (d := 21) (sq_stepper hC) rfl rfl rfl ?_ | (refine W_splitG (sq_stepper hC) _ rfl _ rfl (fun hq => ?_) (fun hq => ?_) <;> ((try simp only [eq_self, not_true_eq_false, not_false_eq_true, bne_self_eq_false, Bool.false_eq_true, Bool.true_eq_false, Bool.and_eq_true, Bool.or_eq_true, Bool.or_eq_false_iff, Bool.not_not, inB_t, inB_f, decide_eq_true_eq, decide_eq_false_iff_not, Bool.not_eq_true', Bool.not_eq_false', Bool.not_eq_true, Bool.not_eq_false, Int.not_lt, Int.not_le, Nat.not_lt, Nat.not_le, reduceCtorEq, batB_t, batB_f, Bool.and_eq_false_iff] at hq); try (have hq' := hq; clear hq)) <;> first | refine W_skip (d := 21) (sq_stepper hC) rfl rfl ?_ | refine W_not (d := 21) (sq_stepper hC) rfl rfl rfl ?_))
  try any_goals (first | refine W_pickT (d := 22) (sq_stepper hC) rfl rfl rfl rfl ?_ | refine W_pickF (d := 22) (sq_stepper hC) rfl rfl rfl rfl ?_)
  try any_goals (refine Sq_nil ?_)
  try any_goals (refine G_then ?_)
  try any_goals (first | refine H_condT rfl ?_ | refine H_condF rfl ?_ | (refine H_cond _ rfl (fun hq => ?_) (fun hq => ?_) <;> (try simp only [eq_self, not_true_eq_false, not_false_eq_true, bne_self_eq_false, Bool.false_eq_true, Bool.true_eq_false, Bool.and_eq_true, Bool.or_eq_true, Bool.or_eq_false_iff, Bool.not_not, inB_t, inB_f, decide_eq_true_eq, decide_eq_false_iff_not, Bool.not_eq_true', Bool.not_eq_false', Bool.not_eq_true, Bool.not_eq_false, Int.not_lt, Int.not_le, Nat.not_lt, Nat.not_le, reduceCtorEq, batB_t, batB_f, Bool.and_eq_false_iff] at hq)))
  try any_goals (refine H_seq ?_)
  try any_goals (refine H_reg ?_)
  try any_goals (first | refine W_assign (d := 6) (sq_stepper hC) rfl rfl rfl ?_)
  try any_goals (first | refine W_assign (d := 7) (sq_stepper hC) rfl rfl rfl ?_)
  try any_goals (refine Sq_nil ?_)
  try any_goals (refine G_then ?_)
  try any_goals (refine H_ret ?_)
  repeat (any_goals (first | refine G_ret_then ?_ | refine G_ret_block ?_))
  try any_goals (refine H_skip ?_)
  try any_goals (refine G_then ?_)
  try any_goals (refine H_seq ?_)
  try any_goals (refine H_reg ?_)
  try any_goals (first | refine W_move (d := 23) (sq_stepper hC) rfl rfl rfl ?_)
  try any_goals (first | refine W_fieldG (d := 24) (sq_stepper hC) (Proj.tail _ _ (Proj.head _ _ _)) (by kernel_rfl) rfl rfl rfl ?_ | refine W_fieldC (d := 24) (sq_stepper hC) (off := 1) (by kernel_rfl) rfl rfl rfl ?_)
  try any_goals (first | refine W_loadI (d := 25) (sq_stepper hC) (by kernel_rfl) rfl rfl rfl ?_ | refine W_loadB (d := 25) (sq_stepper hC) (by kernel_rfl) rfl rfl rfl ?_ | refine W_loadStr (d := 25) (sq_stepper hC) (by kernel_rfl) rfl rfl rfl ?_ | refine W_loadS (d := 25) (sq_stepper hC) (by kernel_rfl) rfl rfl rfl ?_ | refine W_loadA (d := 25) (sq_stepper hC) (by kernel_rfl) rfl rfl rfl ?_)
  try any_goals (first | refine W_ar (d := 26) (sq_stepper hC) rfl rfl rfl rfl rfl (by first | omega | (dsimp only; omega)) ?_)
  try any_goals (first | refine W_max (d := 27) (sq_stepper hC) rfl rfl rfl rfl ?_)
  try any_goals (first | refine W_move (d := 28) (sq_stepper hC) rfl rfl rfl ?_)
  try any_goals (first | refine W_quo (d := 29) (sq_stepper hC) rfl rfl rfl rfl (by first | omega | (dsimp only; omega)) ?_)
  try any_goals (first | refine W_assign (d := 6) (sq_stepper hC) rfl rfl rfl ?_)
  try any_goals (first | refine W_assign (d := 7) (sq_stepper hC) rfl rfl rfl ?_)
  try any_goals (refine Sq_nil ?_)
  try any_goals (refine G_then ?_)
  try any_goals (refine H_ret ?_)
  repeat (any_goals (first | refine G_ret_then ?_ | refine G_ret_block ?_))
  all_goals refine R2v rfl (fun _ h => h) rfl rfl ?_ ?_
  all_goals (cases h : rlOk b l p <;> (try simp only [rl, h, if_true, if_false, Bool.false_eq_true]) <;> (try simp only [rlOk_t, rlOk_f] at h) <;> first | rfl | omega | (congr 2; omega))
theorem ct_toBattery (b : Bat) : CT Try.prog 13 [.inr (uA pBat b)] (.inr (uA pBat b)) := by
  refine .of fun w vs hk => ?_
  match vs, hk with
  | [v], ⟨⟨cs, hv, hφ⟩, _⟩ =>
    obtain ⟨c1, c2, rfl, h1, c3, c4, rfl, h2, c5, c6, rfl, h3, h4⟩ := hφ
    have h1' : c1 = [.int .i64 b.C] := h1
    have h2' : c3 = [.int .i64 b.R] := h2
    have h3' : c5 = [.int .i64 b.G] := h3
    have h4' : c6 = [] := h4
    subst h1' h2' h3' h4' hv
    have key : Calls Try.prog 13 #[.agg #[.int .i64 b.C, .int .i64 b.R, .int .i64 b.G]] w fun e w' => e = .returned (.agg #[.int .i64 b.C, .int .i64 b.R, .int .i64 b.G]) ∧ Below w.heap.size w w' := by
      go_enter Try.func13, Try.ntmps13
      go_wp2
      refine bodyPost_ret (v := .agg #[.int .i64 b.C, .int .i64 b.R, .int .i64 b.G]) (by simp [results, Try.results13, go_sem]) rfl ⟨rfl, ?_⟩
      exact (((Below.refl _ _).alloc (Nat.le_refl _) _).alloc (by simp) _).alloc (by simp; omega) _
    exact key.mono fun e w' ⟨he, hb⟩ => ⟨_, he, hb, [.int .i64 b.C, .int .i64 b.R, .int .i64 b.G], rfl, [_], [_, _], rfl, rfl, [_], [_], rfl, rfl, [_], [], rfl, rfl, rfl⟩
theorem ct_law3 (b : Bat) (l p : Int) : CT Try.prog 3 [.inr (uA pBat b), .inl (.int .i64 l), .inl (.int .i64 p)] (.inl (.bool true)) := by
  refine CT_of Try.func3 rfl rfl rfl (fun w => ?_)
  have hC := upC_ext w
  try any_goals (refine H_seq ?_)
  try any_goals (refine H_reg ?_)
  try any_goals (first | refine W_boxA (d := 3) (sq_stepper hC) rfl rfl rfl ?_)
  try any_goals (first | refine W_assign (d := 6) (sq_stepper hC) rfl rfl rfl ?_)
  try any_goals (refine Sq_nil ?_)
  try any_goals (refine G_then ?_)
  try any_goals (refine H_seq ?_)
  try any_goals (refine H_reg ?_)
  try any_goals (first | refine W_loadI (d := 12) (sq_stepper hC) (by kernel_rfl) rfl rfl rfl ?_ | refine W_loadB (d := 12) (sq_stepper hC) (by kernel_rfl) rfl rfl rfl ?_ | refine W_loadStr (d := 12) (sq_stepper hC) (by kernel_rfl) rfl rfl rfl ?_ | refine W_loadS (d := 12) (sq_stepper hC) (by kernel_rfl) rfl rfl rfl ?_ | refine W_loadA (d := 12) (sq_stepper hC) (by kernel_rfl) rfl rfl rfl ?_)
  try any_goals (first | refine W_ct (d := 13) (sq_stepper hC) (ct_toBattery _) rfl rfl rfl (by kernel_rfl) ?_)
  try any_goals (first | refine W_move (d := 14) (sq_stepper hC) rfl rfl rfl ?_)
  try any_goals (first | refine W_move (d := 15) (sq_stepper hC) rfl rfl rfl ?_)
  try any_goals (first | refine W_ct (d := 16) (sq_stepper hC) (ct_sRange _ _ _) rfl rfl rfl (by kernel_rfl) ?_)
  try any_goals (first | refine W_move (d := 11) (sq_stepper hC) rfl rfl rfl ?_)
  try any_goals (first | refine W_extract (d := 17) (sq_stepper hC) rfl rfl rfl rfl ?_)
  try any_goals (first | refine W_extract (d := 18) (sq_stepper hC) rfl rfl rfl rfl ?_)
  try any_goals (first | refine W_assign (d := 7) (sq_stepper hC) rfl rfl rfl ?_)
  try any_goals (first | refine W_assign (d := 8) (sq_stepper hC) rfl rfl rfl ?_)
  try any_goals (refine Sq_nil ?_)
  try any_goals (refine G_then ?_)
  try any_goals (refine H_seq ?_)
  try any_goals (refine H_reg ?_)
  try any_goals (first | refine W_loadI (d := 20) (sq_stepper hC) (by kernel_rfl) rfl rfl rfl ?_ | refine W_loadB (d := 20) (sq_stepper hC) (by kernel_rfl) rfl rfl rfl ?_ | refine W_loadStr (d := 20) (sq_stepper hC) (by kernel_rfl) rfl rfl rfl ?_ | refine W_loadS (d := 20) (sq_stepper hC) (by kernel_rfl) rfl rfl rfl ?_ | refine W_loadA (d := 20) (sq_stepper hC) (by kernel_rfl) rfl rfl rfl ?_)
  try any_goals (first | refine W_ct (d := 21) (sq_stepper hC) (ct_toBattery _) rfl rfl rfl (by kernel_rfl) ?_)
  try any_goals (first | refine W_move (d := 22) (sq_stepper hC) rfl rfl rfl ?_)
  try any_goals (first | refine W_move (d := 23) (sq_stepper hC) rfl rfl rfl ?_)
  try any_goals (first | refine W_ct (d := 24) (sq_stepper hC) (ct_iRange _ _ _) rfl rfl rfl (by kernel_rfl) ?_)
  try any_goals (first | refine W_move (d := 19) (sq_stepper hC) rfl rfl rfl ?_)
  try any_goals (first | refine W_extract (d := 25) (sq_stepper hC) rfl rfl rfl rfl ?_)
  try any_goals (first | refine W_extract (d := 26) (sq_stepper hC) rfl rfl rfl rfl ?_)
  try any_goals (first | refine W_assign (d := 9) (sq_stepper hC) rfl rfl rfl ?_)
  try any_goals (first | refine W_assign (d := 10) (sq_stepper hC) rfl rfl rfl ?_)
  try any_goals (refine Sq_nil ?_)
  try any_goals (refine G_then ?_)
  try any_goals (refine H_seq ?_)
  try any_goals (refine H_seq ?_)
  try any_goals (refine H_reg ?_)
  try any_goals (first | refine W_move (d := 27) (sq_stepper hC) rfl rfl rfl ?_)
  try any_goals (first | refine W_move (d := 28) (sq_stepper hC) rfl rfl rfl ?_)
  try any_goals (first | refine W_cmp (d := 29) (sq_stepper hC) rfl rfl rfl rfl rfl ?_ | refine W_neqStr (d := 29) (sq_stepper hC) rfl rfl rfl rfl ?_ | refine W_neqB (d := 29) (sq_stepper hC) rfl rfl Try.underlying4 rfl rfl ?_)
  try any_goals (first | refine W_move (d := 30) (sq_stepper hC) rfl rfl rfl ?_)
  try any_goals (first | refine W_skip (d := 31) (sq_stepper hC) rfl rfl ?_ | refine W_move (d := 31) (sq_stepper hC) rfl rfl rfl ?_ | (refine W_splitG (sq_stepper hC) _ rfl _ rfl (fun hq => ?_) (fun hq => ?_) <;> ((try simp only [eq_self, not_true_eq_false, not_false_eq_true, bne_self_eq_false, Bool.false_eq_true, Bool.true_eq_false, Bool.and_eq_true, Bool.or_eq_true, Bool.or_eq_false_iff, Bool.not_not, inB_t, inB_f, decide_eq_true_eq, decide_eq_false_iff_not, Bool.not_eq_true', Bool.not_eq_false', Bool.not_eq_true, Bool.not_eq_false, Int.not_lt, Int.not_le, Nat.not_lt, Nat.not_le, reduceCtorEq] at hq); try (have hq' := hq; clear hq)) <;> first | refine W_skip (d := 31) (sq_stepper hC) rfl rfl ?_ | refine W_move (d := 31) (sq_stepper hC) rfl rfl rfl ?_))
  try any_goals (first | refine W_skip (d := 32) (sq_stepper hC) rfl rfl ?_ | refine W_move (d := 32) (sq_stepper hC) rfl rfl rfl ?_ | (refine W_splitG (sq_stepper hC) _ rfl _ rfl (fun hq => ?_) (fun hq => ?_) <;> ((try simp only [eq_self, not_true_eq_false, not_false_eq_true, bne_self_eq_false, Bool.false_eq_true, Bool.true_eq_false, Bool.and_eq_true, Bool.or_eq_true, Bool.or_eq_false_iff, Bool.not_not, inB_t, inB_f, decide_eq_true_eq, decide_eq_false_iff_not, Bool.not_eq_true', Bool.not_eq_false', Bool.not_eq_true, Bool.not_eq_false, Int.not_lt, Int.not_le, Nat.not_lt, Nat.not_le, reduceCtorEq] at hq); try (have hq' := hq; clear hq)) <;> first | refine W_skip (d := 32) (sq_stepper hC) rfl rfl ?_ | refine W_move (d := 32) (sq_stepper hC) rfl rfl rfl ?_))
  try any_goals (first | refine W_skip (d := 33) (sq_stepper hC) rfl rfl ?_ | refine W_cmp (d := 33) (sq_stepper hC) rfl rfl rfl rfl rfl ?_ | refine W_neqStr (d := 33) (sq_stepper hC) rfl rfl rfl rfl ?_ | refine W_neqB (d := 33) (sq_stepper hC) rfl rfl Try.underlying4 rfl rfl ?_ | (refine W_splitG (sq_stepper hC) _ rfl _ rfl (fun hq => ?_) (fun hq => ?_) <;> ((try simp only [eq_self, not_true_eq_false, not_false_eq_true, bne_self_eq_false, Bool.false_eq_true, Bool.true_eq_false, Bool.and_eq_true, Bool.or_eq_true, Bool.or_eq_false_iff, Bool.not_not, inB_t, inB_f, decide_eq_true_eq, decide_eq_false_iff_not, Bool.not_eq_true', Bool.not_eq_false', Bool.not_eq_true, Bool.not_eq_false, Int.not_lt, Int.not_le, Nat.not_lt, Nat.not_le, reduceCtorEq] at hq); try (have hq' := hq; clear hq)) <;> first | refine W_skip (d := 33) (sq_stepper hC) rfl rfl ?_ | refine W_cmp (d := 33) (sq_stepper hC) rfl rfl rfl rfl rfl ?_ | refine W_neqStr (d := 33) (sq_stepper hC) rfl rfl rfl rfl ?_ | refine W_neqB (d := 33) (sq_stepper hC) rfl rfl Try.underlying4 rfl rfl ?_))
  try any_goals (first | refine W_pickT (d := 34) (sq_stepper hC) rfl rfl rfl rfl ?_ | refine W_pickF (d := 34) (sq_stepper hC) rfl rfl rfl rfl ?_)
  try any_goals (refine Sq_nil ?_)
  try any_goals (refine G_then ?_)
  try any_goals (first | refine H_condT rfl ?_ | refine H_condF rfl ?_ | (refine H_cond _ rfl (fun hq => ?_) (fun hq => ?_) <;> (try simp only [eq_self, not_true_eq_false, not_false_eq_true, bne_self_eq_false, Bool.false_eq_true, Bool.true_eq_false, Bool.and_eq_true, Bool.or_eq_true, Bool.or_eq_false_iff, Bool.not_not, inB_t, inB_f, decide_eq_true_eq, decide_eq_false_iff_not, Bool.not_eq_true', Bool.not_eq_false', Bool.not_eq_true, Bool.not_eq_false, Int.not_lt, Int.not_le, Nat.not_lt, Nat.not_le, reduceCtorEq] at hq)))
  try any_goals (refine H_seq ?_)
  try any_goals (refine H_reg ?_)
  try any_goals (first | refine W_assign (d := 6) (sq_stepper hC) rfl rfl rfl ?_)
  try any_goals (refine Sq_nil ?_)
  try any_goals (refine G_then ?_)
  try any_goals (refine H_ret ?_)
  repeat (any_goals (first | refine G_ret_then ?_ | refine G_ret_block ?_))
  try any_goals (refine H_skip ?_)
  try any_goals (refine G_then ?_)
  try any_goals (refine H_seq ?_)
  try any_goals (refine H_reg ?_)
  try any_goals (first | refine W_assign (d := 6) (sq_stepper hC) rfl rfl rfl ?_)
  try any_goals (refine Sq_nil ?_)
  try any_goals (refine G_then ?_)
  try any_goals (refine H_ret ?_)
  repeat (any_goals (first | refine G_ret_then ?_ | refine G_ret_block ?_))

  all_goals exact R1v rfl (fun _ h => h) rfl rfl
theorem rd_Bat : Rd Try.prog pBat 23 := fun H enc W fuel cs x h => by
  obtain ⟨hl, hf⟩ := trod_fields Try.underlying23 h
  have hl' : cs.length = 3 := hl.trans (by kernel_rfl)
  obtain ⟨c0, c1, c2, rfl⟩ := len3 hl'
  obtain ⟨_, _, t0⟩ := fld (k := 1) (hf 0 _ rfl) (by kernel_rfl) rfl
  obtain ⟨z0, e0⟩ := (Rd.int Try.underlying3) _ _ _ _ _ _ t0
  obtain ⟨_, _, t1⟩ := fld (k := 1) (hf 1 _ rfl) (by kernel_rfl) rfl
  obtain ⟨z1, e1⟩ := (Rd.int Try.underlying3) _ _ _ _ _ _ t1
  obtain ⟨_, _, t2⟩ := fld (k := 1) (hf 2 _ rfl) (by kernel_rfl) rfl
  obtain ⟨z2, e2⟩ := (Rd.int Try.underlying3) _ _ _ _ _ _ t2
  exact ⟨⟨z0, z1, z2⟩, [c0], [c1, c2], rfl, e0, [c1], [c2], rfl, e1, [c2], [], rfl, e2, rfl⟩
end Go.Proofs.Ytdpcbbbfikhiiaa
