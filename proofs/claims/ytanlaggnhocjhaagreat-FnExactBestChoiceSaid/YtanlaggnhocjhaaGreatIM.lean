/- Lists of numbers in memory of their own; marks in them. -/
import Derived.Test.YtanlaggnhocjhaaGreatFun
import Derived.Test.YtanlaggnhocjhaaGreatNest
namespace Go.Proofs.YtanlaggnhocjhaaGreat
set_option linter.unusedSimpArgs false
set_option linter.unusedVariables false
open Go.RowKit Go.ChangeShapes Go.WideShapes Go.ChangeAt Go.Deep
theorem cq_toIntS (xs : List Int) (hn : xs.length ≤ 1048576) : CTG Tryz.prog 34 [.inr (uS none pI xs)] (fun s => .inr (uQ (fun b => s ≤ b) 3 pI xs)) := (cg_toIntS xs hn).uQ hn
theorem mx_IntS : MKX Tryz.prog 23 (ShS sI) 1048576 := by
  refine MKX_of Tryz.func23 rfl rfl rfl (fun w v S k hV hS hk => ?_)
  have hV0 := hV
  obtain ⟨A, n, c, rfl, hn, _⟩ := hV0
  have hC : UpC (Tn S w) := upC_tn
  try any_goals ((refine H_seq ?_; try refine H_reg ?_))
  try any_goals (refine W_assign (d := 4) (sq_stepper hC) rfl rfl rfl ?_)
  try any_goals ((refine Sq_nil ?_; try refine G_then ?_))
  try any_goals (refine H_seq ?_)
  try any_goals ((refine H_seq ?_; try refine H_reg ?_))
  try any_goals (refine W_assign (d := 5) (sq_stepper hC) rfl rfl rfl ?_)
  try any_goals ((refine Sq_nil ?_; try refine G_then ?_))
  try any_goals (refine H_block ?_)
  try any_goals ((refine H_loop (σ := Nat × Int) (fun x => x.1 ≤ n ∧ k ≤ x.2 ∧ x.2 ≤ k + 1 * x.1) (fun x => [(0, .inl (.slice A n c)), (1, .inl (.int .i64 x.2)), (5, .inl (.int .i64 x.1))]) (fun _ => Tn S w) (fun x => n - x.1) (0, k) ⟨Nat.zero_le _, by simp only; omega, by simp only; omega⟩ (fun a w h => h.sub (by repeat (first | exact trivial | refine ⟨⟨_, rfl, fun _ _ _ h => h⟩, ?_⟩ | refine ⟨⟨_, rfl, fun v w _ h => (show v = _ from h).trans (congrArg (Value.int .i64) (by first | omega | (dsimp only; omega)))⟩, ?_⟩)) fun _ h => h) (fun x hx => ?_); obtain ⟨i, m⟩ := x; obtain ⟨hi, hm1, hm2⟩ := hx; simp only at hi hm1 hm2))
  try any_goals (refine H_seq ?_)
  try any_goals ((refine H_seq ?_; try refine H_reg ?_))
  try any_goals (refine W_move (d := 6) (sq_stepper hC) rfl rfl rfl ?_)
  try any_goals (refine W_move (d := 7) (sq_stepper hC) rfl rfl rfl ?_)
  try any_goals (refine W_lenO (d := 8) (sq_stepper hC) (by kernel_rfl) rfl rfl rfl ?_)
  try any_goals (refine W_cmp (d := 9) (sq_stepper hC) rfl rfl rfl rfl rfl ?_)
  try any_goals ((refine Sq_nil ?_; try refine G_then ?_))
  try any_goals ((refine H_cond _ rfl (fun hq => ?_) (fun hq => ?_) <;> (try simp only [hqs, reduceCtorEq] at hq)))
  try any_goals (refine H_skip ?_)
  try any_goals (refine H_exit ?_)
  repeat (any_goals (first | refine G_exit_then ?_ | refine G_exit_here ?_ | refine G_exit_far rfl ?_))
  try any_goals (refine G_then ?_)
  try any_goals (refine H_seq ?_)
  try any_goals (refine H_block ?_)
  try any_goals (first | (refine H_seq ?_; try refine H_reg ?_) | refine H_reg ?_)
  try any_goals (refine W_move (d := 12) (sq_stepper hC) rfl rfl rfl ?_)
  try any_goals (refine W_move (d := 13) (sq_stepper hC) rfl rfl rfl ?_)
  try any_goals (refine W_move (d := 14) (sq_stepper hC) rfl rfl rfl ?_)
  try any_goals ((obtain ⟨b, rfl⟩ := hV.some_ (by omega); refine W_indexO (d := 15) (s := Shp.k sI) (sq_stepper hC) (by kernel_rfl) rfl rfl rfl rfl (by omega) ?_))
  try any_goals ((refine Sq_storeT hV (i := i) (by omega) PrS.self (fun _ _ _ ⟨x, hx⟩ => ⟨_, hx, _, rfl⟩) rfl (by kernel_rfl) rfl (by first | rfl | (simp only [Int.toNat_natCast, Nat.add_zero]; rfl)) rfl ?_; have hC : UpC (Tn S w) := upC_tn))
  try any_goals ((refine Sq_nil ?_; try refine G_then ?_))
  try any_goals (refine H_reg ?_)
  try any_goals (refine W_move (d := 16) (sq_stepper hC) rfl rfl rfl ?_)
  try any_goals (refine W_ar (d := 17) (sq_stepper hC) rfl rfl rfl rfl rfl (by first | omega | (dsimp only; omega)) ?_)
  try any_goals (refine W_assign (d := 1) (sq_stepper hC) rfl rfl rfl ?_)
  try any_goals (refine Sq_nil ?_)
  repeat (any_goals (first | refine G_exit_then ?_ | refine G_exit_here ?_ | refine G_exit_far rfl ?_ | refine G_normal_block ?_))
  try any_goals (refine G_then ?_)
  try any_goals (refine H_reg ?_)
  try any_goals (refine W_move (d := 10) (sq_stepper hC) rfl rfl rfl ?_)
  try any_goals (refine W_ar (d := 11) (sq_stepper hC) rfl rfl rfl rfl rfl (by first | omega | (dsimp only; omega)) ?_)
  try any_goals (refine W_assign (d := 5) (sq_stepper hC) rfl rfl rfl ?_)
  try any_goals (refine Sq_nil ?_)
  try any_goals (refine G_again (i + 1, m + 1) ⟨by simp only; omega, by simp only; omega, by simp only; omega⟩ (by simp only; omega) (by repeat (first | exact trivial | refine ⟨⟨_, rfl, fun _ _ _ h => h⟩, ?_⟩ | refine ⟨⟨_, rfl, fun v w _ h => (show v = _ from h).trans (congrArg (Value.int .i64) (by first | omega | (dsimp only; omega)))⟩, ?_⟩)) (fun _ h => h))
  repeat (any_goals (first | refine G_exit_then ?_ | refine G_exit_here ?_ | refine G_exit_far rfl ?_ | refine G_normal_block ?_))
  try any_goals (refine W_move (d := 18) (sq_stepper hC) rfl rfl rfl ?_)
  try any_goals (refine W_assign (d := 4) (sq_stepper hC) rfl rfl rfl ?_)
  try any_goals ((refine Sq_nil ?_; try refine G_then ?_))
  try any_goals (refine H_ret ?_)
  repeat (any_goals (first | refine G_ret_then ?_ | refine G_ret_block ?_))
  all_goals exact R_mkx rfl rfl (by omega) (fun _ h => h)
end Go.Proofs.YtanlaggnhocjhaaGreat
