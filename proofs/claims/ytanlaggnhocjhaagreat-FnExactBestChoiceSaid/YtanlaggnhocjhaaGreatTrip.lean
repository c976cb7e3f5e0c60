/- Trips of a timetable, by their numbers. -/
import Derived.Test.YtanlaggnhocjhaaGreatTim
namespace Go.Proofs.YtanlaggnhocjhaaGreat
set_option linter.unusedSimpArgs false
set_option linter.unusedVariables false
open Go.RowKit Go.ChangeShapes Go.WideShapes Go.ChangeAt Go.Deep
/-- The index of the trip with a number. -/
def fndT (t : Tab) (id : Int) : Int := firstI (fun j => decide ((ix t.T j).I = id)) t.T.length
theorem tabB_k {t : Tab} (h : tabB t = true) : netB t.N = true ∧ (t.T.length : Int) ≤ 12 ∧ ∀ j : Nat, (j : Int) < t.T.length → tripAt t j = true := by
  simp only [tabB, Bool.and_eq_true, decide_eq_true_eq] at h
  exact ⟨h.1.1, h.1.2, allB_t.1 h.2⟩
theorem tabB_at {t : Tab} (h : tabB t = true) {i : Int} (h0 : 0 ≤ i) (h1 : i < t.T.length) : (1 ≤ (ix t.T i).I ∧ (ix t.T i).I ≤ 999) ∧ (0 ≤ (ix t.T i).L ∧ (ix t.T i).L ≤ (t.N.L.length : Int) - 1) ∧ (0 ≤ (ix t.T i).S ∧ (ix t.T i).S ≤ 1799) ∧ (0 ≤ endAt t i ∧ endAt t i ≤ 1799) ∧ (i = 0 ∨ (ix t.T (i - 1)).I < (ix t.T i).I) := by
  have := (tabB_k h).2.2 i.toNat (by omega)
  rwa [show ((i.toNat : Nat) : Int) = i by omega, tripAt_t] at this
theorem tabB_lin {t : Tab} (h : tabB t = true) {i : Int} (h0 : 0 ≤ i) (h1 : i < t.T.length) : LinK (trLin t i) := by
  have := tabB_at h h0 h1
  exact netB_lin (tabB_k h).1 (by omega) (by omega)
theorem fndT_bd {t : Tab} {id : Int} : -1 ≤ fndT t id ∧ fndT t id < t.T.length := firstI_bd
theorem fndT_val {t : Tab} {id : Int} (h : 0 ≤ fndT t id) : (ix t.T (fndT t id)).I = id := by
  have h1 := firstI_val (q := fun j : Nat => decide ((ix t.T j).I = id)) h
  rw [decide_eq_true_eq] at h1
  have h2 : (ix t.T ((fndT t id).toNat : Int)).I = id := h1
  have e : ((fndT t id).toNat : Int) = fndT t id := by omega
  rwa [e] at h2
theorem fndT_pos {t : Tab} {id : Int} (hv : tabB t = true) (h : 0 ≤ fndT t id) : 1 ≤ id ∧ id ≤ 999 := by
  have h1 := tabB_at hv h fndT_bd.2
  rw [fndT_val h] at h1
  exact h1.1
theorem CT_tabl {f : FuncId} {ps : List Pr} {R : Pr} {t : Tab} (h : t.T.length ≤ 9223372036854775807 → CT Tryz.prog f (.inr (uA bTab t) :: ps) R) : CT Tryz.prog f (.inr (uA bTab t) :: ps) R :=
  CT_fact (p := t.T.length ≤ 9223372036854775807) (fun vs w hk => by
    match vs, hk with
    | u :: vs, ⟨⟨cs, _, c1, c2, _, _, c3, c4, _, ⟨v, _, A, n, c, _, hn, hc, hm, _⟩, _⟩, _⟩ =>
      simp only [maxLen] at hm
      omega) h
section
variable {P : Program} {ops : Array Oper} {C : World → Prop} {N : Nat} {M : List (Nat × Pr) → List Oper → Prop} {K : List (Nat × Pr)} {rest : List Oper} {d : Nat} {op : Op} {ty : TypeId} {pos : String} {af : Array Edge} {g : Option (Nat × Bool)}
theorem W_boxI (hM : Stepper P ops C N M) {n : Int} {x : Operand} {t : TypeId} (hg : wantedK ops K g = some true) (hN : Nat.blt d N = true) (hx : kn K x = some (.inl (.int .i64 n)))
    (h : M ((d, .inr (uP pI n)) :: K) rest) : M K (⟨some d, .box t x, ty, pos, af, g⟩ :: rest) :=
  W_gen hM _ hN hg (fun a w hc hk => by
    have hv : a.eval x = .int .i64 n := hk x (by simp [Op.operands]) _ hx
    unfold gives
    have hr : ∀ ρ : Operand → Value, ρ x = .int .i64 n → (execOp ρ ⟨some d, .box t x, ty, pos, af, g⟩).run P w = .ok (.value (.pointer (some ⟨w.heap.size, 0, none⟩))) (w.alloc (.cells ([Value.int .i64 n] : List Value).toArray t)) := fun ρ hv => by
      simp [execOp, hv, go_sem, Value.cells]
    rw [hr _ hv]
    refine ⟨new_ext w _, w.heap.size, 0, [.int .i64 n], rfl, fun j u hu => ?_, rfl⟩
    rw [Nat.zero_add]
    exact (Blk.new w t [.int .i64 n]).cell hu) h
end
theorem ct_l5Find (t : Tab) (id : Int) : CT Tryz.prog 56 [.inr (uA bTab t), .inl (.int .i64 id)] (.inl (.int .i64 (fndT t id))) := by
  refine CT_tabl fun hlen => ?_
  refine CT_of Tryz.func56 rfl rfl rfl (fun w => ?_)
  have hC := upC_ext w
  try any_goals ((refine H_seq ?_; try refine H_reg ?_))
  try any_goals (refine W_boxA (d := 2) (sq_stepper hC) rfl rfl rfl ?_)
  try any_goals (refine W_assign (d := 4) (sq_stepper hC) rfl rfl rfl ?_)
  try any_goals ((refine Sq_nil ?_; try refine G_then ?_))
  try any_goals (refine H_seq ?_)
  try any_goals ((refine H_seq ?_; try refine H_reg ?_))
  try any_goals (refine W_assign (d := 5) (sq_stepper hC) rfl rfl rfl ?_)
  try any_goals ((refine Sq_nil ?_; try refine G_then ?_))
  try any_goals (refine H_block ?_)
  try any_goals ((refine H_loop (fun i : Nat => i ≤ t.T.length ∧ ∀ j : Nat, j < i → decide ((ix t.T j).I = id) = false) (fun i => [(2, .inr (uP bTab t)), (1, .inl (.int .i64 id)), (5, .inl (.int .i64 i))]) (fun _ => Ext w) (fun i => t.T.length - i) 0 ⟨by omega, fun j hj => by omega⟩ (fun a w h => h.sub (by repeat (first | exact trivial | refine ⟨⟨_, rfl, fun _ _ _ h => h⟩, ?_⟩ | refine ⟨⟨_, rfl, fun v w _ h => (show v = _ from h).trans (congrArg (Value.int .i64) (by first | omega | (dsimp only; omega)))⟩, ?_⟩)) fun _ h => h) (fun i hi => ?_); obtain ⟨h1, hall⟩ := hi))
  try any_goals (refine H_seq ?_)
  try any_goals ((refine H_seq ?_; try refine H_reg ?_))
  try any_goals (refine W_move (d := 6) (sq_stepper hC) rfl rfl rfl ?_)
  try any_goals (refine W_fieldG (d := 7) (sq_stepper hC) (Proj.tail _ _ (Proj.head _ _ _)) (by kernel_rfl) rfl rfl rfl ?_)
  try any_goals (refine W_loadS (d := 8) (sq_stepper hC) (by kernel_rfl) rfl rfl rfl ?_)
  try any_goals (refine W_len (d := 9) (sq_stepper hC) (by kernel_rfl) rfl rfl rfl ?_)
  try any_goals (refine W_cmp (d := 10) (sq_stepper hC) rfl rfl rfl rfl rfl ?_)
  try any_goals ((refine Sq_nil ?_; try refine G_then ?_))
  try any_goals ((refine H_cond _ rfl (fun hq => ?_) (fun hq => ?_) <;> (try simp only [hqs, reduceCtorEq] at hq)))
  try any_goals (refine H_skip ?_)
  try any_goals (refine H_exit ?_)
  repeat (any_goals (first | refine G_exit_then ?_ | refine G_exit_here ?_ | refine G_exit_far rfl ?_))
  try any_goals (refine G_then ?_)
  try any_goals (refine H_seq ?_)
  try any_goals (refine H_block ?_)
  try any_goals (first | (refine H_seq ?_; try refine H_reg ?_) | refine H_reg ?_)
  try any_goals (refine W_fieldG (d := 13) (sq_stepper hC) (Proj.tail _ _ (Proj.head _ _ _)) (by kernel_rfl) rfl rfl rfl ?_)
  try any_goals (refine W_loadS (d := 14) (sq_stepper hC) (by kernel_rfl) rfl rfl rfl ?_)
  try any_goals (refine W_move (d := 15) (sq_stepper hC) rfl rfl rfl ?_)
  try any_goals (refine W_index (d := 16) (sq_stepper hC) (by kernel_rfl) rfl rfl rfl rfl (by first | omega | (dsimp only; omega)) ?_)
  try any_goals (refine W_fieldG (d := 17) (sq_stepper hC) (Proj.head _ _ _) (by kernel_rfl) rfl rfl rfl ?_)
  try any_goals (refine W_loadI (d := 18) (sq_stepper hC) (by kernel_rfl) rfl rfl rfl ?_)
  try any_goals (refine W_move (d := 19) (sq_stepper hC) rfl rfl rfl ?_)
  try any_goals (refine W_cmp (d := 20) (sq_stepper hC) rfl rfl rfl rfl rfl ?_)
  try any_goals ((refine Sq_nil ?_; try refine G_then ?_))
  try any_goals ((refine H_cond _ rfl (fun hq => ?_) (fun hq => ?_) <;> (try simp only [hqs, reduceCtorEq] at hq)))
  try any_goals ((refine H_seq ?_; try refine H_reg ?_))
  try any_goals (refine W_move (d := 21) (sq_stepper hC) rfl rfl rfl ?_)
  try any_goals (refine W_assign (d := 4) (sq_stepper hC) rfl rfl rfl ?_)
  try any_goals ((refine Sq_nil ?_; try refine G_then ?_))
  try any_goals (refine H_ret ?_)
  repeat (any_goals (first | refine G_ret_then ?_ | refine G_ret_block ?_))
  try any_goals (refine H_skip ?_)
  repeat (any_goals (first | refine G_exit_then ?_ | refine G_exit_here ?_ | refine G_exit_far rfl ?_ | refine G_normal_block ?_))
  try any_goals (refine G_then ?_)
  try any_goals (refine H_reg ?_)
  try any_goals (refine W_move (d := 11) (sq_stepper hC) rfl rfl rfl ?_)
  try any_goals (refine W_ar (d := 12) (sq_stepper hC) rfl rfl rfl rfl rfl (by first | omega | (dsimp only; omega)) ?_)
  try any_goals (refine W_assign (d := 5) (sq_stepper hC) rfl rfl rfl ?_)
  try any_goals (refine Sq_nil ?_)
  try any_goals (refine G_again (i + 1) ⟨by omega, fst_step (q := fun j : Nat => decide ((ix t.T j).I = id)) hall (decide_eq_false (by omega))⟩ (by omega) (by repeat (first | exact trivial | refine ⟨⟨_, rfl, fun _ _ _ h => h⟩, ?_⟩ | refine ⟨⟨_, rfl, fun v w _ h => (show v = _ from h).trans (congrArg (Value.int .i64) (by first | omega | (dsimp only; omega)))⟩, ?_⟩)) (fun _ h => h))
  repeat (any_goals (first | refine G_exit_then ?_ | refine G_exit_here ?_ | refine G_exit_far rfl ?_ | refine G_normal_block ?_))
  repeat (any_goals (first | refine G_ret_then ?_ | refine G_ret_block ?_))
  all_goals first
    | exact R1v rfl (fun _ h => h) rfl (congrArg (Value.int .i64) (firstI_some (q := fun j : Nat => decide ((ix t.T j).I = id)) (decide_eq_true (by omega)) hall (by omega)).symm)
    | exact R1v rfl (fun _ h => h) rfl (congrArg (Value.int .i64) (firstI_none (q := fun j : Nat => decide ((ix t.T j).I = id)) fun j hj => hall j (by omega)).symm)
theorem ct_IndexFuncT {e : Option TypeId} (xs : List Trp) (q : Trp → Bool) : CT Tryz.prog 102 [.inr (uS e pTrp xs), .inr (uFun Tryz.prog (fun x : Trp => [.inr (uA pTrp x)]) (fun x => .inl (.bool (q x))))] (.inl (.int .i64 (firstI (fun j => q (ix xs j)) xs.length))) := by
  refine CT_len fun hlen => ?_
  refine CT_of Tryz.func102 rfl rfl rfl (fun w => ?_)
  have hC := upC_ext w
  try any_goals ((refine H_seq ?_; try refine H_reg ?_))
  try any_goals (refine W_assign (d := 4) (sq_stepper hC) rfl rfl rfl ?_)
  try any_goals ((refine Sq_nil ?_; try refine G_then ?_))
  try any_goals (refine H_seq ?_)
  try any_goals ((refine H_seq ?_; try refine H_reg ?_))
  try any_goals (refine W_move (d := 6) (sq_stepper hC) rfl rfl rfl ?_)
  try any_goals (refine W_len (d := 7) (sq_stepper hC) (by kernel_rfl) rfl rfl rfl ?_)
  try any_goals (refine W_move (d := 8) (sq_stepper hC) rfl rfl rfl ?_)
  try any_goals ((refine Sq_nil ?_; try refine G_then ?_))
  try any_goals (refine H_block ?_)
  try any_goals ((refine H_loop (fun i : Nat => i ≤ xs.length ∧ ∀ j : Nat, j < i → q (ix xs j) = false) (fun i => [(0, .inr (uS e pTrp xs)), (1, .inr (uFun Tryz.prog (fun x : Trp => [.inr (uA pTrp x)]) (fun x => .inl (.bool (q x))))), (7, .inl (.int .i64 xs.length)), (8, .inl (.int .i64 i))]) (fun _ => Ext w) (fun i => xs.length - i) 0 ⟨by omega, fun j hj => by omega⟩ (fun a w h => h.sub (by repeat (first | exact trivial | refine ⟨⟨_, rfl, fun _ _ _ h => h⟩, ?_⟩ | refine ⟨⟨_, rfl, fun v w _ h => (show v = _ from h).trans (congrArg (Value.int .i64) (by first | omega | (dsimp only; omega)))⟩, ?_⟩)) fun _ h => h) (fun i hi => ?_); obtain ⟨h1, hall⟩ := hi))
  try any_goals ((refine H_seq ?_; try refine H_reg ?_))
  try any_goals (refine W_cmp (d := 9) (sq_stepper hC) rfl rfl rfl rfl rfl ?_)
  try any_goals ((refine Sq_nil ?_; try refine G_then ?_))
  try any_goals (refine H_seq ?_)
  try any_goals ((refine H_cond _ rfl (fun hq => ?_) (fun hq => ?_) <;> (try simp only [hqs, reduceCtorEq] at hq)))
  try any_goals (refine H_skip ?_)
  try any_goals (refine H_exit ?_)
  repeat (any_goals (first | refine G_exit_then ?_ | refine G_exit_here ?_ | refine G_exit_far rfl ?_))
  try any_goals (refine G_then ?_)
  try any_goals (refine H_seq ?_)
  try any_goals (refine H_block ?_)
  try any_goals (first | (refine H_seq ?_; try refine H_reg ?_) | refine H_reg ?_)
  try any_goals (refine W_move (d := 10) (sq_stepper hC) rfl rfl rfl ?_)
  try any_goals (refine W_assign (d := 5) (sq_stepper hC) rfl rfl rfl ?_)
  try any_goals ((refine Sq_nil ?_; try refine G_then ?_))
  try any_goals ((refine H_seq ?_; try refine H_reg ?_))
  try any_goals (refine W_move (d := 11) (sq_stepper hC) rfl rfl rfl ?_)
  try any_goals (refine W_move (d := 12) (sq_stepper hC) rfl rfl rfl ?_)
  try any_goals (refine W_move (d := 13) (sq_stepper hC) rfl rfl rfl ?_)
  try any_goals (refine W_index (d := 14) (sq_stepper hC) (by kernel_rfl) rfl rfl rfl rfl (by first | omega | (dsimp only; omega)) ?_)
  try any_goals (refine W_loadA (d := 15) (sq_stepper hC) (by kernel_rfl) rfl rfl rfl ?_)
  try any_goals (refine W_callFun (d := 16) (sq_stepper hC) (ix xs i) rfl rfl rfl rfl ?_)
  try any_goals ((refine Sq_nil ?_; try refine G_then ?_))
  try any_goals ((refine H_cond _ rfl (fun hq => ?_) (fun hq => ?_) <;> (try simp only [hqs, reduceCtorEq] at hq)))
  try any_goals ((refine H_seq ?_; try refine H_reg ?_))
  try any_goals (refine W_move (d := 17) (sq_stepper hC) rfl rfl rfl ?_)
  try any_goals (refine W_assign (d := 4) (sq_stepper hC) rfl rfl rfl ?_)
  try any_goals ((refine Sq_nil ?_; try refine G_then ?_))
  try any_goals (refine H_ret ?_)
  repeat (any_goals (first | refine G_ret_then ?_ | refine G_ret_block ?_))
  try any_goals (refine H_skip ?_)
  repeat (any_goals (first | refine G_exit_then ?_ | refine G_exit_here ?_ | refine G_exit_far rfl ?_ | refine G_normal_block ?_))
  try any_goals (refine G_then ?_)
  try any_goals (refine H_reg ?_)
  try any_goals (refine W_ar (d := 18) (sq_stepper hC) rfl rfl rfl rfl rfl (by first | omega | (dsimp only; omega)) ?_)
  try any_goals (refine W_move (d := 8) (sq_stepper hC) rfl rfl rfl ?_)
  try any_goals (refine Sq_nil ?_)
  try any_goals (refine G_again (i + 1) ⟨by omega, fst_step (q := fun j : Nat => q (ix xs j)) hall hq⟩ (by omega) (by repeat (first | exact trivial | refine ⟨⟨_, rfl, fun _ _ _ h => h⟩, ?_⟩ | refine ⟨⟨_, rfl, fun v w _ h => (show v = _ from h).trans (congrArg (Value.int .i64) (by first | omega | (dsimp only; omega)))⟩, ?_⟩)) (fun _ h => h))
  repeat (any_goals (first | refine G_exit_then ?_ | refine G_exit_here ?_ | refine G_exit_far rfl ?_ | refine G_normal_block ?_))
  repeat (any_goals (first | refine G_ret_then ?_ | refine G_ret_block ?_))
  all_goals first
    | exact R1v rfl (fun _ h => h) rfl (congrArg (Value.int .i64) (firstI_some (q := fun j : Nat => q (ix xs j)) hq hall (by omega)).symm)
    | exact R1v rfl (fun _ h => h) rfl (congrArg (Value.int .i64) (firstI_none (q := fun j : Nat => q (ix xs j)) fun j hj => hall j (by omega)).symm)
theorem ct_tripIs (x : Trp) (id : Int) : CT Tryz.prog 103 [.inr (uA pTrp x), .inr (uP pI id)] (.inl (.bool (decide (x.I = id)))) := by
  refine CT_of Tryz.func103 rfl rfl rfl (fun w => ?_)
  have hC := upC_ext w
  try any_goals ((refine H_seq ?_; try refine H_reg ?_))
  try any_goals (refine W_boxA (d := 2) (sq_stepper hC) rfl rfl rfl ?_)
  try any_goals (refine W_assign (d := 3) (sq_stepper hC) rfl rfl rfl ?_)
  try any_goals ((refine Sq_nil ?_; try refine G_then ?_))
  try any_goals ((refine H_seq ?_; try refine H_reg ?_))
  try any_goals (refine W_fieldG (d := 4) (sq_stepper hC) (Proj.head _ _ _) (by kernel_rfl) rfl rfl rfl ?_)
  try any_goals (refine W_loadI (d := 5) (sq_stepper hC) (by kernel_rfl) rfl rfl rfl ?_)
  try any_goals (refine W_loadI (d := 6) (sq_stepper hC) (by kernel_rfl) rfl rfl rfl ?_)
  try any_goals (refine W_cmp (d := 7) (sq_stepper hC) rfl rfl rfl rfl rfl ?_)
  try any_goals (refine W_assign (d := 3) (sq_stepper hC) rfl rfl rfl ?_)
  try any_goals ((refine Sq_nil ?_; try refine G_then ?_))
  try any_goals (refine H_ret ?_)
  repeat (any_goals (first | refine G_ret_then ?_ | refine G_ret_block ?_))
  all_goals exact R1v rfl (fun _ h => h) rfl rfl
theorem ct_tripIndex (t : Tab) (id : Int) : CT Tryz.prog 90 [.inr (uA bTab t), .inl (.int .i64 id)] (.inl (.int .i64 (fndT t id))) := by
  refine CT_of Tryz.func90 rfl rfl rfl (fun w => ?_)
  have hC := upC_ext w
  try any_goals ((refine H_seq ?_; try refine H_reg ?_))
  try any_goals (refine W_boxA (d := 2) (sq_stepper hC) rfl rfl rfl ?_)
  try any_goals (refine W_boxI (d := 3) (sq_stepper hC) rfl rfl rfl ?_)
  try any_goals (refine W_assign (d := 4) (sq_stepper hC) rfl rfl rfl ?_)
  try any_goals ((refine Sq_nil ?_; try refine G_then ?_))
  try any_goals ((refine H_seq ?_; try refine H_reg ?_))
  try any_goals (refine W_fieldG (d := 5) (sq_stepper hC) (Proj.tail _ _ (Proj.head _ _ _)) (by kernel_rfl) rfl rfl rfl ?_)
  try any_goals (refine W_loadS (d := 6) (sq_stepper hC) (by kernel_rfl) rfl rfl rfl ?_)
  try any_goals (refine W_makeFun (d := 7) (sq_stepper hC) (fun x : Trp => [.inr (uA pTrp x)]) (fun x => .inl (.bool (decide (x.I = id)))) (cs := [.inr (uP pI id)]) (fun x => ct_tripIs x id) rfl rfl rfl (by kernel_rfl) ?_)
  try any_goals (refine W_ct (d := 8) (sq_stepper hC) (ct_IndexFuncT _ (fun x => decide (x.I = id))) rfl rfl rfl (by kernel_rfl) ?_)
  try any_goals (refine W_assign (d := 4) (sq_stepper hC) rfl rfl rfl ?_)
  try any_goals ((refine Sq_nil ?_; try refine G_then ?_))
  try any_goals (refine H_ret ?_)
  repeat (any_goals (first | refine G_ret_then ?_ | refine G_ret_block ?_))
  all_goals exact R1v rfl (fun _ h => h) rfl rfl
theorem ct_tripWith (t : Tab) (id : Int) (hf : 0 ≤ fndT t id) : CT Tryz.prog 69 [.inr (uA bTab t), .inl (.int .i64 id)] (.inr (uA pTrp (ix t.T (fndT t id)))) := by
  refine CT_of Tryz.func69 rfl rfl rfl (fun w => ?_)
  have hb := fndT_bd (t := t) (id := id)
  refine H_weakenC (C' := Sep w []) (fun w' h => sep_start h) ?_
  try any_goals ((refine H_seq ?_; try refine H_reg ?_))
  try any_goals (refine W_boxA (d := 2) (sq_stepper upC_sep) rfl rfl rfl ?_)
  try any_goals (refine Sq_allocL (d := 4) pTrp default [.int .i64 0, .int .i64 0, .int .i64 0] (by kernel_rfl) (fun w => ⟨[_], _, rfl, rfl, [_], _, rfl, rfl, [_], _, rfl, rfl, rfl⟩) (by kernel_rfl) rfl (fun v4 => ?_))
  try any_goals ((refine Sq_nil ?_; try refine G_then ?_))
  try any_goals (refine H_seq ?_)
  try any_goals (refine H_draw' (by kernel_rfl) upC_sep ?_)
  try any_goals (refine W_fieldG (d := 5) wk_stepper (Proj.tail _ _ (Proj.head _ _ _)) (by kernel_rfl) rfl rfl rfl ?_)
  try any_goals (refine W_loadS (d := 6) wk_stepper (by kernel_rfl) rfl rfl rfl ?_)
  try any_goals (refine W_loadA (d := 7) wk_stepper (by kernel_rfl) rfl rfl rfl ?_)
  try any_goals (refine W_move (d := 8) wk_stepper rfl rfl rfl ?_)
  try any_goals (refine W_ct (d := 9) wk_stepper (ct_tripIndex _ _) rfl rfl rfl (by kernel_rfl) ?_)
  try any_goals (refine W_index (d := 10) wk_stepper (by kernel_rfl) rfl rfl rfl rfl (by first | omega | (dsimp only; omega)) ?_)
  try any_goals (refine W_loadA (d := 11) wk_stepper (by kernel_rfl) rfl rfl rfl ?_)
  try any_goals (refine Wk_none (by kernel_rfl) (by kernel_rfl) ?_)
  try any_goals (refine Sq_storeS 0 (n := 3) (ix t.T (fndT t id)) rfl ⟨⟨trivial, trivial, trivial, trivial⟩, trivial⟩ ⟨by decide, by decide⟩ rfl (by kernel_rfl) (Nat.le_refl _) rfl rfl hp_A ?_)
  try any_goals ((refine Sq_nil ?_; try refine G_then ?_))
  try any_goals (refine H_ret ?_)
  repeat (any_goals (first | refine G_ret_then ?_ | refine G_ret_block ?_))
  all_goals exact RcellS 0 rfl (by kernel_rfl) (fun _ h => h.ext) rfl rfl rfl
theorem ct_lineOf (t : Tab) (x : Trp) (hl : 0 ≤ x.L ∧ x.L < t.N.L.length) : CT Tryz.prog 71 [.inr (uA bTab t), .inr (uA pTrp x)] (.inr (uA bLin (ix t.N.L x.L))) := by
  refine CT_of Tryz.func71 rfl rfl rfl (fun w => ?_)
  refine H_weakenC (C' := Sep w []) (fun w' h => sep_start h) ?_
  try any_goals ((refine H_seq ?_; try refine H_reg ?_))
  try any_goals (refine W_boxA (d := 2) (sq_stepper upC_sep) rfl rfl rfl ?_)
  try any_goals (refine W_boxA (d := 3) (sq_stepper upC_sep) rfl rfl rfl ?_)
  try any_goals (refine Sq_allocL (d := 4) bLin default [.string ⟨#[]⟩, .slice none 0 0, .slice none 0 0] (by kernel_rfl) (fun w => ⟨[_], _, rfl, rfl, [_], _, rfl, ⟨_, rfl, isS_nil⟩, [_], _, rfl, ⟨_, rfl, isS_nil⟩, rfl⟩) (by kernel_rfl) rfl (fun v4 => ?_))
  try any_goals ((refine Sq_nil ?_; try refine G_then ?_))
  try any_goals ((refine H_seq ?_; try refine H_reg ?_))
  try any_goals (refine W_fieldG (d := 5) (sq_stepper upC_sep) (Proj.head _ _ _) (by kernel_rfl) rfl rfl rfl ?_)
  try any_goals (refine W_fieldG (d := 6) (sq_stepper upC_sep) (Proj.tail _ _ (Proj.head _ _ _)) (by kernel_rfl) rfl rfl rfl ?_)
  try any_goals (refine W_loadS (d := 7) (sq_stepper upC_sep) (by kernel_rfl) rfl rfl rfl ?_)
  try any_goals (refine W_fieldG (d := 8) (sq_stepper upC_sep) (Proj.tail _ _ (Proj.head _ _ _)) (by kernel_rfl) rfl rfl rfl ?_)
  try any_goals (refine W_loadI (d := 9) (sq_stepper upC_sep) (by kernel_rfl) rfl rfl rfl ?_)
  try any_goals (refine W_index (d := 10) (sq_stepper upC_sep) (by kernel_rfl) rfl rfl rfl rfl (by first | omega | (dsimp only; omega)) ?_)
  try any_goals (refine W_loadA (d := 11) (sq_stepper upC_sep) (by kernel_rfl) rfl rfl rfl ?_)
  try any_goals (refine Sq_storeS 0 (n := 3) (ix t.N.L x.L) rfl ⟨⟨trivial, ⟨_, rfl, by decide, trivial⟩, ⟨_, rfl, by decide, trivial⟩, trivial⟩, trivial⟩ ⟨by decide, by decide⟩ rfl (by kernel_rfl) (Nat.le_refl _) rfl rfl hp_A ?_)
  try any_goals ((refine Sq_nil ?_; try refine G_then ?_))
  try any_goals (refine H_ret ?_)
  repeat (any_goals (first | refine G_ret_then ?_ | refine G_ret_block ?_))
  all_goals exact RcellS 0 rfl (by kernel_rfl) (fun _ h => h.ext) rfl rfl rfl
end Go.Proofs.YtanlaggnhocjhaaGreat
