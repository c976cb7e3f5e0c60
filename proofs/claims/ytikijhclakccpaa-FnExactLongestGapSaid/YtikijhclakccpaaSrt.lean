/- slices.Sort of at most twelve ints. -/
import Derived.Test.YtikijhclakccpaaPdq
import Derived.Test.YtikijhclakccpaaStr
namespace Go.Proofs.Ytikijhclakccpaa
set_option linter.unusedSimpArgs false
set_option linter.unusedVariables false
open Go.RowKit Go.ChangeShapes Go.WideShapes Go.ChangeAt Go.Deep
section
variable {P : Program} {ops : Array Oper} {C : World → Prop} {N : Nat} {M : List (Nat × Pr) → List Oper → Prop} {K : List (Nat × Pr)} {rest : List Oper} {d : Nat} {op : Op} {ty : TypeId} {pos : String} {af : Array Edge} {g : Option (Nat × Bool)}
theorem W_conv (hM : Stepper P ops C N M) {n : Int} {k k' : IntKind} {x : Operand} {t t' : TypeId} (ht : P.underlying t = some (.int k)) (ht' : P.underlying t' = some (.int k')) (hg : wantedK ops K g = some true) (hN : Nat.blt d N = true) (hx : kn K x = some (.inl (.int k n)))
    (h : M ((d, .inl (.int k' (k'.wrap n))) :: K) rest) : M K (⟨some d, .convert t t' x, ty, pos, af, g⟩ :: rest) :=
  W_val hM hN hg (fun ρ w _ hk => by
    have hv : ρ x = .int k n := hk x (by simp [Op.operands]) _ hx
    simp [execOp, hv, convert, run_underlying ht, run_underlying ht', Conv.intToInt]) h
end
def lenI (n : Int) : Int := if n = 0 then 0 else if n < 2 then 1 else if n < 4 then 2 else if n < 8 then 3 else 4
theorem ct_Len64 (n : Int) (h : 0 ≤ n ∧ n ≤ 12) : CT Try.prog 156 [.inl (.int .u64 n)] (.inl (.int .i64 (lenI n))) := by
  have h : n = 0 ∨ n = 1 ∨ n = 2 ∨ n = 3 ∨ n = 4 ∨ n = 5 ∨ n = 6 ∨ n = 7 ∨ n = 8 ∨ n = 9 ∨ n = 10 ∨ n = 11 ∨ n = 12 := by omega
  refine CT_of Try.func156 rfl rfl rfl (fun w => ?_)
  have hC := upC_ext w
  rcases h with rfl | rfl | rfl | rfl | rfl | rfl | rfl | rfl | rfl | rfl | rfl | rfl | rfl
  try any_goals (first | (refine H_seq ?_; try refine H_reg ?_) | refine H_reg ?_)
  try any_goals (refine W_assign (d := 2) (sq_stepper hC) rfl rfl rfl ?_)
  try any_goals (first | (refine Sq_nil ?_; try refine G_then ?_) | refine G_then ?_)
  try any_goals (refine H_seq ?_)
  try any_goals (first | (refine H_seq ?_; try refine H_reg ?_) | refine H_reg ?_)
  try any_goals (refine W_move (d := 3) (sq_stepper hC) rfl rfl rfl ?_)
  try any_goals (first | refine W_cmp (d := 4) (sq_stepper hC) rfl rfl rfl rfl rfl ?_ | refine W_strcmp (d := 4) (sq_stepper hC) rfl rfl rfl rfl rfl ?_)
  try any_goals (first | (refine Sq_nil ?_; try refine G_then ?_) | refine G_then ?_)
  try any_goals (first | refine H_condT rfl ?_ | refine H_condF rfl ?_ | (refine H_cond _ rfl (fun hq => ?_) (fun hq => ?_) <;> (try simp only [hqs, reduceCtorEq] at hq)))
  try any_goals (first | ((exfalso; omega)) | skip)
  try any_goals (first | (refine H_seq ?_; try refine H_reg ?_) | refine H_reg ?_)
  try any_goals (refine W_move (d := 5) (sq_stepper hC) rfl rfl rfl ?_)
  try any_goals (fail)
  try any_goals (refine W_assign (d := 0) (sq_stepper hC) rfl rfl rfl ?_)
  try any_goals (first | (refine Sq_nil ?_; try refine G_then ?_) | refine G_then ?_)
  try any_goals (refine H_reg ?_)
  try any_goals (refine W_assign (d := 2) (sq_stepper hC) rfl rfl rfl ?_)
  try any_goals (refine Sq_nil ?_)
  try any_goals (refine H_skip ?_)
  try any_goals (refine G_then ?_)
  try any_goals (refine H_seq ?_)
  try any_goals (first | (refine H_seq ?_; try refine H_reg ?_) | refine H_reg ?_)
  try any_goals (refine W_move (d := 7) (sq_stepper hC) rfl rfl rfl ?_)
  try any_goals (first | refine W_cmp (d := 8) (sq_stepper hC) rfl rfl rfl rfl rfl ?_ | refine W_strcmp (d := 8) (sq_stepper hC) rfl rfl rfl rfl rfl ?_)
  try any_goals (first | (refine Sq_nil ?_; try refine G_then ?_) | refine G_then ?_)
  try any_goals (first | refine H_condT rfl ?_ | refine H_condF rfl ?_ | (refine H_cond _ rfl (fun hq => ?_) (fun hq => ?_) <;> (try simp only [hqs, reduceCtorEq] at hq)))
  try any_goals (first | ((exfalso; omega)) | skip)
  try any_goals (first | (refine H_seq ?_; try refine H_reg ?_) | refine H_reg ?_)
  try any_goals (refine W_move (d := 9) (sq_stepper hC) rfl rfl rfl ?_)
  try any_goals (fail)
  try any_goals (refine W_assign (d := 0) (sq_stepper hC) rfl rfl rfl ?_)
  try any_goals (first | (refine Sq_nil ?_; try refine G_then ?_) | refine G_then ?_)
  try any_goals (refine H_reg ?_)
  try any_goals (refine W_move (d := 11) (sq_stepper hC) rfl rfl rfl ?_)
  try any_goals (refine W_ar (d := 12) (sq_stepper hC) rfl rfl rfl rfl rfl (by first | omega | (dsimp only; omega)) ?_)
  try any_goals (refine W_assign (d := 2) (sq_stepper hC) rfl rfl rfl ?_)
  try any_goals (refine Sq_nil ?_)
  try any_goals (refine H_skip ?_)
  try any_goals (refine G_then ?_)
  try any_goals (refine H_seq ?_)
  try any_goals (first | (refine H_seq ?_; try refine H_reg ?_) | refine H_reg ?_)
  try any_goals (refine W_move (d := 13) (sq_stepper hC) rfl rfl rfl ?_)
  try any_goals (first | refine W_cmp (d := 14) (sq_stepper hC) rfl rfl rfl rfl rfl ?_ | refine W_strcmp (d := 14) (sq_stepper hC) rfl rfl rfl rfl rfl ?_)
  try any_goals (first | (refine Sq_nil ?_; try refine G_then ?_) | refine G_then ?_)
  try any_goals (first | refine H_condT rfl ?_ | refine H_condF rfl ?_ | (refine H_cond _ rfl (fun hq => ?_) (fun hq => ?_) <;> (try simp only [hqs, reduceCtorEq] at hq)))
  try any_goals (first | ((exfalso; omega)) | skip)
  try any_goals (first | (refine H_seq ?_; try refine H_reg ?_) | refine H_reg ?_)
  try any_goals (refine W_move (d := 15) (sq_stepper hC) rfl rfl rfl ?_)
  try any_goals (fail)
  try any_goals (refine W_assign (d := 0) (sq_stepper hC) rfl rfl rfl ?_)
  try any_goals (first | (refine Sq_nil ?_; try refine G_then ?_) | refine G_then ?_)
  try any_goals (refine H_reg ?_)
  try any_goals (refine W_move (d := 17) (sq_stepper hC) rfl rfl rfl ?_)
  try any_goals (refine W_ar (d := 18) (sq_stepper hC) rfl rfl rfl rfl rfl (by first | omega | (dsimp only; omega)) ?_)
  try any_goals (refine W_assign (d := 2) (sq_stepper hC) rfl rfl rfl ?_)
  try any_goals (refine Sq_nil ?_)
  try any_goals (refine H_skip ?_)
  try any_goals (refine G_then ?_)
  try any_goals (first | (refine H_seq ?_; try refine H_reg ?_) | refine H_reg ?_)
  try any_goals (refine W_move (d := 19) (sq_stepper hC) rfl rfl rfl ?_)
  try any_goals (refine W_move (d := 20) (sq_stepper hC) rfl rfl rfl ?_)
  try any_goals (refine W_conv (d := 21) (sq_stepper hC) Try.underlying184 Try.underlying5 rfl rfl rfl ?_)
  try any_goals (refine W_strIdx (d := 22) (sq_stepper hC) (by kernel_rfl) rfl rfl rfl rfl (by decide +kernel) ?_)
  try any_goals (refine W_conv (d := 23) (sq_stepper hC) Try.underlying5 Try.underlying3 rfl rfl rfl ?_)
  try any_goals (refine W_ar (d := 24) (sq_stepper hC) rfl rfl rfl rfl rfl (by decide +kernel) ?_)
  try any_goals (refine W_assign (d := 2) (sq_stepper hC) rfl rfl rfl ?_)
  try any_goals (first | (refine Sq_nil ?_; try refine G_then ?_) | refine G_then ?_)
  try any_goals (refine H_ret ?_)
  repeat (any_goals (first | refine G_ret_then ?_ | refine G_ret_block ?_))
  all_goals first
    | exact R1v rfl (fun _ h => h) rfl (congrArg (Value.int .i64) (by decide +kernel))
    | trace_state
theorem ct_Len (n : Int) (h : 0 ≤ n ∧ n ≤ 12) : CT Try.prog 117 [.inl (.int .u64 n)] (.inl (.int .i64 (lenI n))) := by
  refine CT_of Try.func117 rfl rfl rfl (fun w => ?_)
  have hC := upC_ext w
  try any_goals (first | (refine H_seq ?_; try refine H_reg ?_) | refine H_reg ?_)
  try any_goals (refine W_assign (d := 2) (sq_stepper hC) rfl rfl rfl ?_)
  try any_goals (first | (refine Sq_nil ?_; try refine G_then ?_) | refine G_then ?_)
  try any_goals (refine H_seq ?_)
  try any_goals (first | refine H_condT rfl ?_ | refine H_condF rfl ?_ | (refine H_cond _ rfl (fun hq => ?_) (fun hq => ?_) <;> (try simp only [hqs, reduceCtorEq] at hq)))
  try any_goals (first | (refine H_seq ?_; try refine H_reg ?_) | refine H_reg ?_)
  try any_goals (refine W_move (d := 3) (sq_stepper hC) rfl rfl rfl ?_)
  try any_goals (fail)
  try any_goals (fail)
  try any_goals (refine W_assign (d := 2) (sq_stepper hC) rfl rfl rfl ?_)
  try any_goals (first | (refine Sq_nil ?_; try refine G_then ?_) | refine G_then ?_)
  try any_goals (refine H_ret ?_)
  repeat (any_goals (first | refine G_ret_then ?_ | refine G_ret_block ?_))
  try any_goals (refine H_skip ?_)
  try any_goals (refine G_then ?_)
  try any_goals (first | (refine H_seq ?_; try refine H_reg ?_) | refine H_reg ?_)
  try any_goals (refine W_move (d := 6) (sq_stepper hC) rfl rfl rfl ?_)
  try any_goals (refine W_ct (d := 7) (sq_stepper hC) (ct_Len64 _ h) rfl rfl rfl (by kernel_rfl) ?_)
  try any_goals (refine W_assign (d := 2) (sq_stepper hC) rfl rfl rfl ?_)
  try any_goals (first | (refine Sq_nil ?_; try refine G_then ?_) | refine G_then ?_)
  try any_goals (refine H_ret ?_)
  repeat (any_goals (first | refine G_ret_then ?_ | refine G_ret_block ?_))
  all_goals first
    | exact R1v rfl (fun _ h => h) rfl rfl
    | trace_state
theorem wrapU {n : Int} (h : 0 ≤ n ∧ n ≤ 12) : IntKind.u64.wrap n = n := by
  have h : n = 0 ∨ n = 1 ∨ n = 2 ∨ n = 3 ∨ n = 4 ∨ n = 5 ∨ n = 6 ∨ n = 7 ∨ n = 8 ∨ n = 9 ∨ n = 10 ∨ n = 11 ∨ n = 12 := by omega
  rcases h with rfl | rfl | rfl | rfl | rfl | rfl | rfl | rfl | rfl | rfl | rfl | rfl | rfl <;> decide +kernel
theorem cx_SortI {w0 : World} {L : List Osl} (m : Nat) {xs : List Int} {v : Value} (hm : L[m]? = some (.sl Int 3 pI xs v)) (hav : avAll L 3) (hn : (xs.length : Int) ≤ 12) :
    CTX Try.prog 70 (Sep w0 L) [.inl v] (σ := Unit) (fun _ => Sep w0 (L.set m (.sl Int 3 pI (isortL (fun a b => decide (a < b)) xs) v))) (fun _ => .inl (.tuple #[])) := by
  refine CTX_of Try.func70 rfl rfl rfl ?_
  have hC : UpC (Sep w0 L) := upC_sep
  try any_goals (first | (refine H_seq ?_; try refine H_reg ?_) | refine H_reg ?_)
  try any_goals (refine W_move (d := 3) (sq_stepper upC_sep) rfl rfl rfl ?_)
  try any_goals (refine W_lenS (d := 4) m (sq_stepper upC_sep) hm (by kernel_rfl) rfl rfl rfl ?_)
  try any_goals (refine W_assign (d := 2) (sq_stepper upC_sep) rfl rfl rfl ?_)
  try any_goals (first | (refine Sq_nil ?_; try refine G_then ?_) | refine G_then ?_)
  try any_goals (refine H_reg ?_)
  try any_goals (refine W_move (d := 5) (sq_stepper upC_sep) rfl rfl rfl ?_)
  try any_goals (refine W_move (d := 6) (sq_stepper upC_sep) rfl rfl rfl ?_)
  try any_goals (refine W_move (d := 7) (sq_stepper upC_sep) rfl rfl rfl ?_)
  try any_goals (refine W_conv (d := 8) (sq_stepper upC_sep) Try.underlying3 Try.underlying153 rfl rfl rfl ?_; rw [wrapU ⟨by omega, hn⟩])
  try any_goals (refine W_ct (d := 9) (sq_stepper upC_sep) (ct_Len _ ⟨by omega, hn⟩) rfl rfl rfl (by kernel_rfl) ?_)
  try any_goals ((refine Sq_ctx (cx_pdqO m hm hav hn) rfl rfl (by kernel_rfl) (fun _ => ?_)))
  try any_goals (refine Sq_nil ?_)
  all_goals first
    | exact RX0 rfl (fun w h => ⟨(), h, rfl⟩)
    | trace_state
end Go.Proofs.Ytikijhclakccpaa
