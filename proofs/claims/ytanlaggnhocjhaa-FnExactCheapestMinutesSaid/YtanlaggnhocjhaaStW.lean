/- The steps of a stable sort: stretches swapped, rotated, a stretch sorted by insertion. -/
import Derived.Test.YtanlaggnhocjhaaStb
import Derived.Test.YtanlaggnhocjhaaRes
namespace Go.Proofs.Ytanlaggnhocjhaa
set_option linter.unusedSimpArgs false
set_option linter.unusedVariables false
open Go.RowKit Go.ChangeShapes Go.WideShapes Go.ChangeAt Go.Deep
theorem wrapU64 {n : Int} (h : 0 ≤ n ∧ n ≤ 4611686018427387904) : IntKind.u64.wrap n = n := by
  have e : n % 18446744073709551616 = n := by omega
  simp [IntKind.wrap, IntKind.bits, IntKind.signed, e]
theorem wrapI64 {n : Int} (h : 0 ≤ n ∧ n ≤ 4611686018427387904) : IntKind.i64.wrap n = n := by
  have e : n % 18446744073709551616 = n := by omega
  have e2 : ¬ (9223372036854775808 : Int) ≤ n := by omega
  simp [IntKind.wrap, IntKind.bits, IntKind.signed, e, e2]
section
variable {P : Program} {ops : Array Oper} {C : World → Prop} {N : Nat} {M : List (Nat × Pr) → List Oper → Prop} {K : List (Nat × Pr)} {rest : List Oper} {d : Nat} {ty : TypeId} {pos : String} {af : Array Edge} {g : Option (Nat × Bool)}
theorem W_cnv (hM : Stepper P ops C N M) {n : Int} {k k' : IntKind} {x : Operand} {t t' : TypeId} (ht : P.underlying t = some (.int k)) (ht' : P.underlying t' = some (.int k')) (hw : k'.wrap n = n) (hg : wantedK ops K g = some true) (hN : Nat.blt d N = true) (hx : kn K x = some (.inl (.int k n)))
    (h : M ((d, .inl (.int k' n)) :: K) rest) : M K (⟨some d, .convert t t' x, ty, pos, af, g⟩ :: rest) :=
  W_val hM hN hg (fun ρ w _ hk => by
    have hv : ρ x = .int k n := hk x (by simp [Op.operands]) _ hx
    simp [execOp, hv, convert, run_underlying ht, run_underlying ht', Conv.intToInt, hw]) h
theorem W_half (hM : Stepper P ops C N M) {n : Int} {k : IntKind} {x y : Operand} {t t' : TypeId} (hk0 : Nat.ble 1 k.bits = true) (hg : wantedK ops K g = some true) (hN : Nat.blt d N = true) (hx : kn K x = some (.inl (.int k n))) (hy : kn K y = some (.inl (.int .u64 1))) (h0 : 0 ≤ n)
    (h : M ((d, .inl (.int k (n / 2))) :: K) rest) : M K (⟨some d, .binOp .shr t x y t', ty, pos, af, g⟩ :: rest) :=
  W_val hM hN hg (fun ρ w _ hk => by
    have hv : ρ x = .int k n := hk x (by simp [Op.operands]) _ hx
    have hy' : ρ y = .int .u64 1 := hk y (by simp [Op.operands]) _ hy
    have hm : min 1 k.bits = 1 := by have := Nat.le_of_ble_eq_true hk0; omega
    have hf : n.fdiv (2 ^ 1) = n / 2 := by
      rw [Int.fdiv_eq_ediv_of_nonneg _ (by decide)]
      rfl
    simp [execOp, hv, hy', binOp, eqGuard, Op.shift, hm]
    exact hf) h
end
theorem cmp_lt {x y : Int} : cmpN x y < 0 ↔ x < y := by
  unfold cmpN
  split
  · simp [*]
  · split <;> (constructor <;> intro h <;> omega)
theorem pr_ix {pr : Int → Prop} {D E : List Int} (h : ∀ x ∈ D, pr x) (hp : E.Perm D) {i : Int} (h0 : 0 ≤ i) (h1 : i < E.length) : pr (ix E i) := h _ (hp.mem_iff.1 (mem_ix h0 h1))
abbrev sI (L : List Osl) (m : Nat) (E : List Int) (v : Value) : List Osl := L.set m (.sl Int 3 pI E v)
section
variable {w0 : World} {L : List Osl} {v c : Value} {D0 : List Int}
theorem cx_swr (m : Nat) (hm : L[m]? = some (.sl Int 3 pI D0 v)) (hav : avAll L 3) (D : List Int) (a b n : Int) (h : 0 ≤ a ∧ 0 ≤ n ∧ a + n ≤ b ∧ b + n ≤ D.length ∧ D.length ≤ 1048576) :
    CTX Try.prog 102 (Sep w0 (sI L m D v)) [.inl v, .inl (.int .i64 a), .inl (.int .i64 b), .inl (.int .i64 n), .inl c] (fun (E : List Int) w' => Sep w0 (sI L m E v) w' ∧ Swr a b n D E) (fun _ => .inl (.tuple #[])) := by
  have hav1 : ∀ ys, avAll (sI L m ys v) 3 := fun ys => hav.set trivial
  refine CTX_of Try.func102 rfl rfl rfl ?_
  try any_goals (first | (refine H_seq ?_; try refine H_reg ?_) | refine H_reg ?_)
  try any_goals (refine W_assign (d := 10) (sq_stepper upC_sep) rfl rfl rfl ?_)
  try any_goals (first | (refine Sq_nil ?_; try refine G_then ?_) | refine G_then ?_)
  try any_goals (refine H_block ?_)
  try any_goals ((refine H_loop (σ := Nat × List Int) (fun x => (x.1 : Int) ≤ n ∧ Swr a b x.1 D x.2) (fun x => [(0, .inl v), (1, .inl (.int .i64 a)), (2, .inl (.int .i64 b)), (3, .inl (.int .i64 n)), (10, .inl (.int .i64 x.1))]) (fun x => Sep w0 (sI L m x.2 v)) (fun x => n.toNat - x.1) (0, D) ⟨h.2.1, Swr.z⟩ (fun a w' h => h.sub (by repeat (first | exact trivial | refine ⟨⟨_, rfl, fun _ _ _ h => h⟩, ?_⟩ | refine ⟨⟨_, rfl, fun v w _ h => (show v = _ from h).trans (congrArg (Value.int .i64) (by first | omega | (dsimp only; omega)))⟩, ?_⟩)) (fun w' h => h)) (fun x hx => ?_); obtain ⟨i, E⟩ := x; obtain ⟨hi, hE⟩ := hx; simp only at hi hE; have hEl := hE.l))
  try any_goals (refine H_seq ?_)
  try any_goals (first | (refine H_seq ?_; try refine H_reg ?_) | refine H_reg ?_)
  try any_goals (refine W_move (d := 11) (sq_stepper upC_sep) rfl rfl rfl ?_)
  try any_goals (refine W_move (d := 12) (sq_stepper upC_sep) rfl rfl rfl ?_)
  try any_goals (first | refine W_cmp (d := 13) (sq_stepper upC_sep) rfl rfl rfl rfl rfl ?_ | refine W_strcmp (d := 13) (sq_stepper upC_sep) rfl rfl rfl rfl rfl ?_)
  try any_goals (first | (refine Sq_nil ?_; try refine G_then ?_) | refine G_then ?_)
  try any_goals (first | refine H_condT rfl ?_ | refine H_condF rfl (Wt.un 0 ?_) | (refine H_cond _ rfl (fun hq => ?_) (fun hq => Wt.un 0 ?_) <;> (try simp only [hqs, reduceCtorEq] at hq)))
  try any_goals (refine H_skip ?_)
  try any_goals (refine G_hold 1 ?_)
  try any_goals (refine Wt.out 0 ?_)
  try any_goals (refine H_exit ?_)
  repeat (any_goals (first | refine G_exit_then ?_ | refine G_exit_here ?_ | refine G_exit_far rfl ?_))
  try any_goals (refine G_hold 2 ?_)
  try any_goals (refine Wt.out 1 ?_)
  try any_goals (refine G_then ?_)
  try any_goals (refine H_seq ?_)
  try any_goals (refine H_block ?_)
  try any_goals (refine H_drawT [4, 5, 6, 7] [0, 1, 2, 3, 8, 9, 10, 11, 12, 13, 14, 15, 16, 17, 18, 19, 20] [21, 22, 23] (by kernel_rfl) (by kernel_rfl) upC_sep (fun _ _ _ _ _ h => h) ?_)
  try any_goals (refine L_move rfl rfl ?_)
  try any_goals (refine L_move rfl rfl ?_)
  try any_goals (refine L_move rfl rfl ?_)
  try any_goals (refine L_ar rfl rfl rfl rfl (by first | omega | (dsimp only; omega)) ?_)
  try any_goals (refine L_nil ?_)
  try any_goals (refine W_move (d := 16) wkH_stepper rfl rfl rfl ?_)
  try any_goals (refine W_move (d := 17) wkH_stepper rfl rfl rfl ?_)
  try any_goals (refine W_move (d := 18) wkH_stepper rfl rfl rfl ?_)
  try any_goals (refine W_ar (d := 19) wkH_stepper rfl rfl rfl rfl rfl (by first | omega | (dsimp only; omega)) ?_)
  try any_goals (refine W_move (d := 24) wkH_stepper rfl rfl rfl ?_)
  try any_goals (refine W_move (d := 25) wkH_stepper rfl rfl rfl ?_)
  try any_goals (refine W_move (d := 26) wkH_stepper rfl rfl rfl ?_)
  try any_goals (refine W_ar (d := 27) wkH_stepper rfl rfl rfl rfl rfl (by first | omega | (dsimp only; omega)) ?_)
  try any_goals (refine W_idxS1 (d := 28) m wkH_stepper (hm_set hm) rfl (by kernel_rfl) rfl rfl rfl rfl ⟨by (first | omega | (dsimp only; omega)), by (first | omega | (dsimp only; omega))⟩ ?_)
  try any_goals (refine W_loadSI (d := 29) m wkH_stepper (hm_set hm) ⟨by (first | omega | (dsimp only; omega)), by (first | omega | (dsimp only; omega))⟩ (by kernel_rfl) rfl rfl rfl ?_)
  try any_goals (refine W_move (d := 30) wkH_stepper rfl rfl rfl ?_)
  try any_goals (refine W_move (d := 31) wkH_stepper rfl rfl rfl ?_)
  try any_goals (refine W_move (d := 32) wkH_stepper rfl rfl rfl ?_)
  try any_goals (refine W_ar (d := 33) wkH_stepper rfl rfl rfl rfl rfl (by first | omega | (dsimp only; omega)) ?_)
  try any_goals (refine W_idxS1 (d := 34) m wkH_stepper (hm_set hm) rfl (by kernel_rfl) rfl rfl rfl rfl ⟨by (first | omega | (dsimp only; omega)), by (first | omega | (dsimp only; omega))⟩ ?_)
  try any_goals (refine W_loadSI (d := 35) m wkH_stepper (hm_set hm) ⟨by (first | omega | (dsimp only; omega)), by (first | omega | (dsimp only; omega))⟩ (by kernel_rfl) rfl rfl rfl ?_)
  try any_goals (refine W_idxS1 (d := 36) m wkH_stepper (hm_set hm) rfl (by kernel_rfl) rfl rfl rfl rfl ⟨by (first | omega | (dsimp only; omega)), by (first | omega | (dsimp only; omega))⟩ ?_)
  try any_goals (refine WkH_nil ?_)
  try any_goals (refine Sq_storeSI m (hm_set hm) (hav1 _) ⟨by (first | omega | (dsimp only; omega)), by (first | omega | (dsimp only; omega))⟩ (by kernel_rfl) rfl rfl ?_; rw [List.set_set])
  try any_goals (refine W_idxS1 (d := 37) m (sq_stepper upC_sep) (hm_set hm) rfl (by kernel_rfl) rfl rfl rfl rfl ⟨by (first | omega | (dsimp only; omega)), by rw [List.length_set]; (first | omega | (dsimp only; omega))⟩ ?_)
  try any_goals (refine Sq_storeSI m (hm_set hm) (hav1 _) ⟨by (first | omega | (dsimp only; omega)), by rw [List.length_set]; (first | omega | (dsimp only; omega))⟩ (by kernel_rfl) rfl rfl ?_; rw [List.set_set])
  try any_goals (refine Sq_nil ?_)
  repeat (any_goals (first | refine G_exit_then ?_ | refine G_exit_here ?_ | refine G_exit_far rfl ?_ | refine G_normal_block ?_))
  try any_goals (refine G_then ?_)
  try any_goals (refine H_reg ?_)
  try any_goals (refine W_move (d := 14) (sq_stepper upC_sep) rfl rfl rfl ?_)
  try any_goals (refine W_ar (d := 15) (sq_stepper upC_sep) rfl rfl rfl rfl rfl (by first | omega | (dsimp only; omega)) ?_)
  try any_goals (refine W_assign (d := 10) (sq_stepper upC_sep) rfl rfl rfl ?_)
  try any_goals (refine Sq_nil ?_)
  try any_goals (refine G_again (i + 1, sw2 E (a + i) (b + i)) ⟨by dsimp only; omega, ?_⟩ (by dsimp only; omega) (by repeat (first | exact trivial | refine ⟨⟨_, rfl, fun _ _ _ h => h⟩, ?_⟩ | refine ⟨⟨_, rfl, fun v w _ h => (show v = _ from h).trans (congrArg (Value.int .i64) (by first | omega | (dsimp only; omega)))⟩, ?_⟩)) (fun w' h => h))
  try any_goals (refine Wt.out 2 ?_)
  repeat (any_goals (first | refine G_exit_then ?_ | refine G_exit_here ?_ | refine G_exit_far rfl ?_ | refine G_normal_block ?_))
  all_goals (try dsimp only)
  all_goals first
    | (have h2 := hE.st h.1 (by omega) (by omega) (by omega)
       exact h2)
    | (refine RX0 rfl (fun w h9 => ⟨E, ⟨h9, ?_⟩, rfl⟩)
       rw [show n = (i : Int) by omega]
       exact hE)
    | trace_state
theorem cx_rot (m : Nat) (hm : L[m]? = some (.sl Int 3 pI D0 v)) (hav : avAll L 3) (D : List Int) (a mm b : Int) (h : 0 ≤ a ∧ a < mm ∧ mm < b ∧ b ≤ D.length ∧ D.length ≤ 1048576) :
    CTX Try.prog 96 (Sep w0 (sI L m D v)) [.inl v, .inl (.int .i64 a), .inl (.int .i64 mm), .inl (.int .i64 b), .inl c] (fun (E : List Int) w' => Sep w0 (sI L m E v) w' ∧ Rot a mm b D E) (fun _ => .inl (.tuple #[])) := by
  refine CTX_of Try.func96 rfl rfl rfl ?_
  try any_goals (first | (refine H_seq ?_; try refine H_reg ?_) | refine H_reg ?_)
  try any_goals (refine W_move (d := 12) (sq_stepper upC_sep) rfl rfl rfl ?_)
  try any_goals (refine W_move (d := 13) (sq_stepper upC_sep) rfl rfl rfl ?_)
  try any_goals (refine W_ar (d := 14) (sq_stepper upC_sep) rfl rfl rfl rfl rfl (by first | omega | (dsimp only; omega)) ?_)
  try any_goals (refine W_assign (d := 10) (sq_stepper upC_sep) rfl rfl rfl ?_)
  try any_goals (first | (refine Sq_nil ?_; try refine G_then ?_) | refine G_then ?_)
  try any_goals (first | (refine H_seq ?_; try refine H_reg ?_) | refine H_reg ?_)
  try any_goals (refine W_move (d := 15) (sq_stepper upC_sep) rfl rfl rfl ?_)
  try any_goals (refine W_move (d := 16) (sq_stepper upC_sep) rfl rfl rfl ?_)
  try any_goals (refine W_ar (d := 17) (sq_stepper upC_sep) rfl rfl rfl rfl rfl (by first | omega | (dsimp only; omega)) ?_)
  try any_goals (refine W_assign (d := 11) (sq_stepper upC_sep) rfl rfl rfl ?_)
  try any_goals (first | (refine Sq_nil ?_; try refine G_then ?_) | refine G_then ?_)
  try any_goals (refine H_seq ?_)
  try any_goals (refine H_block ?_)
  try any_goals ((refine H_loop (σ := Int × Int × List Int) (fun x => (0 < x.1 ∧ x.1 ≤ mm - a) ∧ (0 < x.2.1 ∧ x.2.1 ≤ b - mm) ∧ RotL a mm b x.1 x.2.1 D x.2.2) (fun x => [(0, .inl v), (2, .inl (.int .i64 mm)), (4, .inl c), (10, .inl (.int .i64 x.1)), (11, .inl (.int .i64 x.2.1))]) (fun x => Sep w0 (sI L m x.2.2 v)) (fun x => (x.1 + x.2.1).toNat) (mm - a, b - mm, D) ⟨⟨by dsimp only; omega, by dsimp only; omega⟩, ⟨by dsimp only; omega, by dsimp only; omega⟩, RotL.z⟩ (fun a w' h => h.sub (by repeat (first | exact trivial | refine ⟨⟨_, rfl, fun _ _ _ h => h⟩, ?_⟩ | refine ⟨⟨_, rfl, fun v w _ h => (show v = _ from h).trans (congrArg (Value.int .i64) (by first | omega | (dsimp only; omega)))⟩, ?_⟩)) (fun w' h => h)) (fun x hx => ?_); obtain ⟨i, j, E⟩ := x; obtain ⟨hi, hj, hE⟩ := hx; simp only at hi hj hE; have hEl := hE.1))
  try any_goals (refine H_seq ?_)
  try any_goals (first | (refine H_seq ?_; try refine H_reg ?_) | refine H_reg ?_)
  try any_goals (refine W_move (d := 18) (sq_stepper upC_sep) rfl rfl rfl ?_)
  try any_goals (refine W_move (d := 19) (sq_stepper upC_sep) rfl rfl rfl ?_)
  try any_goals (first | refine W_cmp (d := 20) (sq_stepper upC_sep) rfl rfl rfl rfl rfl ?_ | refine W_neqStr (d := 20) (sq_stepper upC_sep) rfl rfl rfl rfl ?_ | refine W_neqB (d := 20) (sq_stepper upC_sep) rfl rfl Try.underlying4 rfl rfl ?_)
  try any_goals (first | (refine Sq_nil ?_; try refine G_then ?_) | refine G_then ?_)
  try any_goals (first | refine H_condT rfl ?_ | refine H_condF rfl (Wt.un 0 ?_) | (refine H_cond _ rfl (fun hq => ?_) (fun hq => Wt.un 0 ?_) <;> (try simp only [hqs, reduceCtorEq] at hq)))
  try any_goals (refine H_skip ?_)
  try any_goals (refine G_hold 1 ?_)
  try any_goals (refine Wt.out 0 ?_)
  try any_goals (refine H_exit ?_)
  repeat (any_goals (first | refine G_exit_then ?_ | refine G_exit_here ?_ | refine G_exit_far rfl ?_))
  try any_goals (refine G_hold 2 ?_)
  try any_goals (refine Wt.out 1 ?_)
  try any_goals (refine G_then ?_)
  try any_goals (refine H_block ?_)
  try any_goals (first | (refine H_seq ?_; try refine H_reg ?_) | refine H_reg ?_)
  try any_goals (refine W_move (d := 21) (sq_stepper upC_sep) rfl rfl rfl ?_)
  try any_goals (refine W_move (d := 22) (sq_stepper upC_sep) rfl rfl rfl ?_)
  try any_goals (first | refine W_cmp (d := 23) (sq_stepper upC_sep) rfl rfl rfl rfl rfl ?_ | refine W_strcmp (d := 23) (sq_stepper upC_sep) rfl rfl rfl rfl rfl ?_)
  try any_goals (first | (refine Sq_nil ?_; try refine G_then ?_) | refine G_then ?_)
  try any_goals (first | refine H_condT rfl ?_ | refine H_condF rfl (Wt.un 3 ?_) | (refine H_cond _ rfl (fun hq => ?_) (fun hq => Wt.un 3 ?_) <;> (try simp only [hqs, reduceCtorEq] at hq)))
  try any_goals (first | (refine H_seq ?_; try refine H_reg ?_) | refine H_reg ?_)
  try any_goals (refine W_move (d := 24) (sq_stepper upC_sep) rfl rfl rfl ?_)
  try any_goals (refine W_move (d := 25) (sq_stepper upC_sep) rfl rfl rfl ?_)
  try any_goals (refine W_move (d := 26) (sq_stepper upC_sep) rfl rfl rfl ?_)
  try any_goals (refine W_ar (d := 27) (sq_stepper upC_sep) rfl rfl rfl rfl rfl (by first | omega | (dsimp only; omega)) ?_)
  try any_goals (refine W_move (d := 28) (sq_stepper upC_sep) rfl rfl rfl ?_)
  try any_goals (refine W_move (d := 29) (sq_stepper upC_sep) rfl rfl rfl ?_)
  try any_goals (refine W_move (d := 30) (sq_stepper upC_sep) rfl rfl rfl ?_)
  try any_goals ((refine Sq_ctx (cx_swr m hm hav E (mm - i) mm j ⟨by omega, by omega, by omega, by omega, by omega⟩) rfl rfl (by kernel_rfl) (fun F => ?_); refine Sq_pure (fun hF => ?_)))
  try any_goals (first | (refine Sq_nil ?_; try refine G_then ?_) | refine G_then ?_)
  try any_goals (refine H_reg ?_)
  try any_goals (refine W_move (d := 32) (sq_stepper upC_sep) rfl rfl rfl ?_)
  try any_goals (refine W_move (d := 33) (sq_stepper upC_sep) rfl rfl rfl ?_)
  try any_goals (refine W_ar (d := 34) (sq_stepper upC_sep) rfl rfl rfl rfl rfl (by first | omega | (dsimp only; omega)) ?_)
  try any_goals (refine W_assign (d := 10) (sq_stepper upC_sep) rfl rfl rfl ?_)
  try any_goals (refine Sq_nil ?_)
  try any_goals (refine G_hold 4 ?_)
  try any_goals (refine Wt.out 3 ?_)
  try any_goals (first | (refine H_seq ?_; try refine H_reg ?_) | refine H_reg ?_)
  try any_goals (refine W_move (d := 35) (sq_stepper upC_sep) rfl rfl rfl ?_)
  try any_goals (refine W_move (d := 36) (sq_stepper upC_sep) rfl rfl rfl ?_)
  try any_goals (refine W_move (d := 37) (sq_stepper upC_sep) rfl rfl rfl ?_)
  try any_goals (refine W_ar (d := 38) (sq_stepper upC_sep) rfl rfl rfl rfl rfl (by first | omega | (dsimp only; omega)) ?_)
  try any_goals (refine W_move (d := 39) (sq_stepper upC_sep) rfl rfl rfl ?_)
  try any_goals (refine W_move (d := 40) (sq_stepper upC_sep) rfl rfl rfl ?_)
  try any_goals (refine W_ar (d := 41) (sq_stepper upC_sep) rfl rfl rfl rfl rfl (by first | omega | (dsimp only; omega)) ?_)
  try any_goals (refine W_move (d := 42) (sq_stepper upC_sep) rfl rfl rfl ?_)
  try any_goals (refine W_ar (d := 43) (sq_stepper upC_sep) rfl rfl rfl rfl rfl (by first | omega | (dsimp only; omega)) ?_)
  try any_goals (refine W_move (d := 44) (sq_stepper upC_sep) rfl rfl rfl ?_)
  try any_goals (refine W_move (d := 45) (sq_stepper upC_sep) rfl rfl rfl ?_)
  try any_goals ((refine Sq_ctx (cx_swr m hm hav E (mm - i) (mm + j - i) i ⟨by omega, by omega, by omega, by omega, by omega⟩) rfl rfl (by kernel_rfl) (fun F => ?_); refine Sq_pure (fun hF => ?_)))
  try any_goals (first | (refine Sq_nil ?_; try refine G_then ?_) | refine G_then ?_)
  try any_goals (refine H_reg ?_)
  try any_goals (refine W_move (d := 47) (sq_stepper upC_sep) rfl rfl rfl ?_)
  try any_goals (refine W_move (d := 48) (sq_stepper upC_sep) rfl rfl rfl ?_)
  try any_goals (refine W_ar (d := 49) (sq_stepper upC_sep) rfl rfl rfl rfl rfl (by first | omega | (dsimp only; omega)) ?_)
  try any_goals (refine W_assign (d := 11) (sq_stepper upC_sep) rfl rfl rfl ?_)
  try any_goals (refine Sq_nil ?_)
  try any_goals (refine Wt.out 4 ?_)
  repeat (any_goals (first | refine G_exit_then ?_ | refine G_exit_here ?_ | refine G_exit_far rfl ?_ | refine G_normal_block ?_))
  try any_goals (first | (have hg := hE.gt hj.1 (by omega) (by omega) hF; exact G_again (i - j, j, F) ⟨⟨by dsimp only; omega, by dsimp only; omega⟩, hj, hg⟩ (by dsimp only; omega) (by repeat (first | exact trivial | refine ⟨⟨_, rfl, fun _ _ _ h => h⟩, ?_⟩ | refine ⟨⟨_, rfl, fun v w _ h => (show v = _ from h).trans (congrArg (Value.int .i64) (by first | omega | (dsimp only; omega)))⟩, ?_⟩)) (fun w' h => h)) | (have hg := hE.lt hi.1 (by omega) (by omega) hF; exact G_again (i, j - i, F) ⟨hi, ⟨by dsimp only; omega, by dsimp only; omega⟩, hg⟩ (by dsimp only; omega) (by repeat (first | exact trivial | refine ⟨⟨_, rfl, fun _ _ _ h => h⟩, ?_⟩ | refine ⟨⟨_, rfl, fun v w _ h => (show v = _ from h).trans (congrArg (Value.int .i64) (by first | omega | (dsimp only; omega)))⟩, ?_⟩)) (fun w' h => h)))
  try any_goals (refine Wt.out 2 ?_)
  repeat (any_goals (first | refine G_exit_then ?_ | refine G_exit_here ?_ | refine G_exit_far rfl ?_ | refine G_normal_block ?_))
  try any_goals (refine G_then ?_)
  try any_goals (refine H_reg ?_)
  try any_goals (refine W_move (d := 50) (sq_stepper upC_sep) rfl rfl rfl ?_)
  try any_goals (refine W_move (d := 51) (sq_stepper upC_sep) rfl rfl rfl ?_)
  try any_goals (refine W_move (d := 52) (sq_stepper upC_sep) rfl rfl rfl ?_)
  try any_goals (refine W_ar (d := 53) (sq_stepper upC_sep) rfl rfl rfl rfl rfl (by first | omega | (dsimp only; omega)) ?_)
  try any_goals (refine W_move (d := 54) (sq_stepper upC_sep) rfl rfl rfl ?_)
  try any_goals (refine W_move (d := 55) (sq_stepper upC_sep) rfl rfl rfl ?_)
  try any_goals (refine W_move (d := 56) (sq_stepper upC_sep) rfl rfl rfl ?_)
  try any_goals ((refine Sq_ctx (cx_swr m hm hav E (mm - i) mm i ⟨by omega, by omega, by omega, by omega, by omega⟩) rfl rfl (by kernel_rfl) (fun F => ?_); refine Sq_pure (fun hF => ?_)))
  try any_goals (refine Sq_nil ?_)
  all_goals (try dsimp only)
  all_goals first
    | (have e : i = j := by omega
       subst e
       exact RX0 rfl (fun w h9 => ⟨F, ⟨h9, hE.fin (by omega) (by omega) hF⟩, rfl⟩)
       )
    | trace_state
/-- A stretch that ascends, sorted by insertion. -/
theorem cx_insR (m : Nat) {p : Int → Int} {pr : Int → Prop} (hm : L[m]? = some (.sl Int 3 pI D0 v)) (hav : avAll L 3) (hF : ∀ ys, FunC Try.prog (Sep w0 (sI L m ys v)) c (fun z : Int => Value.int .i64 z) pr (fun x y => cmpN (p x) (p y))) (D : List Int) (hpr : ∀ x ∈ D, pr x) (a b : Int) (h : 0 ≤ a ∧ a ≤ b ∧ b ≤ D.length ∧ D.length ≤ 1048576) (hasc : ∀ i j, a ≤ i → i < j → j < b → ix D i < ix D j) :
    CTX Try.prog 82 (Sep w0 (sI L m D v)) [.inl v, .inl (.int .i64 a), .inl (.int .i64 b), .inl c] (fun (E : List Int) w' => Sep w0 (sI L m E v) w' ∧ Fr a b D E ∧ Srt p E a b) (fun _ => .inl (.tuple #[])) := by
  have hav1 : ∀ ys, avAll (sI L m ys v) 3 := fun ys => hav.set trivial
  refine CTX_of Try.func82 rfl rfl rfl ?_
  try any_goals (first | (refine H_seq ?_; try refine H_reg ?_) | refine H_reg ?_)
  try any_goals (refine W_move (d := 10) (sq_stepper upC_sep) rfl rfl rfl ?_)
  try any_goals (refine W_ar (d := 11) (sq_stepper upC_sep) rfl rfl rfl rfl rfl (by first | omega | (dsimp only; omega)) ?_)
  try any_goals (refine W_assign (d := 8) (sq_stepper upC_sep) rfl rfl rfl ?_)
  try any_goals (first | (refine Sq_nil ?_; try refine G_then ?_) | refine G_then ?_)
  try any_goals (refine H_block ?_)
  try any_goals ((refine H_loop (σ := Int × List Int) (fun x => a + 1 ≤ x.1 ∧ (x.1 ≤ b ∨ x.1 = a + 1) ∧ Fr a x.1 D x.2 ∧ Srt p x.2 a x.1) (fun x => [(0, .inl v), (1, .inl (.int .i64 a)), (2, .inl (.int .i64 b)), (3, .inl c), (8, .inl (.int .i64 x.1))]) (fun x => Sep w0 (sI L m x.2 v)) (fun x => (b + 1 - x.1).toNat) (a + 1, D) ⟨Int.le_refl _, .inr rfl, Fr.refl, fun i j h1 h2 h3 => by dsimp only at h3; omega⟩ (fun a w' h => h.sub (by repeat (first | exact trivial | refine ⟨⟨_, rfl, fun _ _ _ h => h⟩, ?_⟩ | refine ⟨⟨_, rfl, fun v w _ h => (show v = _ from h).trans (congrArg (Value.int .i64) (by first | omega | (dsimp only; omega)))⟩, ?_⟩)) (fun w' h => h)) (fun x hx => ?_); obtain ⟨i, E⟩ := x; obtain ⟨hi1, hi2, hE, hS⟩ := hx; simp only at hi1 hi2 hE hS; have hEl := hE.l))
  try any_goals (refine H_seq ?_)
  try any_goals (first | (refine H_seq ?_; try refine H_reg ?_) | refine H_reg ?_)
  try any_goals (refine W_move (d := 12) (sq_stepper upC_sep) rfl rfl rfl ?_)
  try any_goals (refine W_move (d := 13) (sq_stepper upC_sep) rfl rfl rfl ?_)
  try any_goals (first | refine W_cmp (d := 14) (sq_stepper upC_sep) rfl rfl rfl rfl rfl ?_ | refine W_strcmp (d := 14) (sq_stepper upC_sep) rfl rfl rfl rfl rfl ?_)
  try any_goals (first | (refine Sq_nil ?_; try refine G_then ?_) | refine G_then ?_)
  try any_goals (first | refine H_condT rfl ?_ | refine H_condF rfl (Wt.un 0 ?_) | (refine H_cond _ rfl (fun hq => ?_) (fun hq => Wt.un 0 ?_) <;> (try simp only [hqs, reduceCtorEq] at hq)))
  try any_goals (refine H_skip ?_)
  try any_goals (refine G_hold 1 ?_)
  try any_goals (refine Wt.out 0 ?_)
  try any_goals (refine H_exit ?_)
  repeat (any_goals (first | refine G_exit_then ?_ | refine G_exit_here ?_ | refine G_exit_far rfl ?_))
  try any_goals (refine G_hold 2 ?_)
  try any_goals (refine Wt.out 1 ?_)
  try any_goals (refine G_then ?_)
  try any_goals (refine H_seq ?_)
  try any_goals (refine H_block ?_)
  try any_goals (first | (refine H_seq ?_; try refine H_reg ?_) | refine H_reg ?_)
  try any_goals (refine W_move (d := 17) (sq_stepper upC_sep) rfl rfl rfl ?_)
  try any_goals (refine W_assign (d := 9) (sq_stepper upC_sep) rfl rfl rfl ?_)
  try any_goals (first | (refine Sq_nil ?_; try refine G_then ?_) | refine G_then ?_)
  try any_goals (refine H_block ?_)
  try any_goals ((refine H_loop (σ := Int × List Int) (fun x => a ≤ x.1 ∧ x.1 ≤ i ∧ Dn1 i x.1 E x.2 ∧ ∀ h, x.1 ≤ h → h < i → p (ix E i) < p (ix E h)) (fun x => [(0, .inl v), (1, .inl (.int .i64 a)), (2, .inl (.int .i64 b)), (3, .inl c), (8, .inl (.int .i64 i)), (9, .inl (.int .i64 x.1))]) (fun x => Sep w0 (sI L m x.2 v)) (fun x => (x.1 - a).toNat) (i, E) ⟨by dsimp only; omega, Int.le_refl _, Dn1.z, fun h h1 h2 => by dsimp only at h1; omega⟩ (fun a w' h => h.sub (by repeat (first | exact trivial | refine ⟨⟨_, rfl, fun _ _ _ h => h⟩, ?_⟩ | refine ⟨⟨_, rfl, fun v w _ h => (show v = _ from h).trans (congrArg (Value.int .i64) (by first | omega | (dsimp only; omega)))⟩, ?_⟩)) (fun w' h => h)) (fun x hx => ?_); obtain ⟨j, F⟩ := x; obtain ⟨hj1, hj2, hD, hlt⟩ := hx; simp only at hj1 hj2 hD hlt; have hFl := hD.l; have hpF := hD.p.trans hE.p; have hFj := hD.at'))
  try any_goals (refine H_seq ?_)
  try any_goals (refine H_seq ?_)
  try any_goals (refine H_draw' (by kernel_rfl) upC_sep ?_)
  try any_goals (refine W_move (d := 18) wk_stepper rfl rfl rfl ?_)
  try any_goals (refine W_move (d := 19) wk_stepper rfl rfl rfl ?_)
  try any_goals (first | refine W_cmp (d := 20) wk_stepper rfl rfl rfl rfl rfl ?_ | refine W_strcmp (d := 20) wk_stepper rfl rfl rfl rfl rfl ?_)
  try any_goals (refine W_move (d := 21) wk_stepper rfl rfl rfl ?_)
  try any_goals (first | refine W_gT (d := 22) wk_stepper _ rfl rfl ?_ | refine W_gF (d := 22) wk_stepper _ rfl rfl ?_ | (refine W_splitG wk_stepper _ rfl _ rfl (fun hq => ?_) (fun hq => ?_) <;> ((try simp only [hqs, reduceCtorEq] at hq); try (have hq' := hq; clear hq))))
  try any_goals (first | refine W_skip (d := 22) wk_stepper rfl rfl ?_ | refine W_move (d := 22) wk_stepper rfl rfl rfl ?_)
  try any_goals (first | refine W_skip (d := 23) wk_stepper rfl rfl ?_ | refine W_move (d := 23) wk_stepper rfl rfl rfl ?_)
  try any_goals (first | refine W_skip (d := 24) wk_stepper rfl rfl ?_ | refine W_move (d := 24) wk_stepper rfl rfl rfl ?_)
  try any_goals (first | refine W_skip (d := 25) wk_stepper rfl rfl ?_ | refine W_idxS1 (d := 25) m wk_stepper (hm_set hm) rfl (by kernel_rfl) rfl rfl rfl rfl ⟨by (first | omega | (dsimp only; omega)), by (first | omega | (dsimp only; omega))⟩ ?_)
  try any_goals (first | refine W_skip (d := 26) wk_stepper rfl rfl ?_ | refine W_loadSI (d := 26) m wk_stepper (hm_set hm) ⟨by (first | omega | (dsimp only; omega)), by (first | omega | (dsimp only; omega))⟩ (by kernel_rfl) rfl rfl rfl ?_)
  try any_goals (first | refine W_skip (d := 27) wk_stepper rfl rfl ?_ | refine W_move (d := 27) wk_stepper rfl rfl rfl ?_)
  try any_goals (first | refine W_skip (d := 28) wk_stepper rfl rfl ?_ | refine W_move (d := 28) wk_stepper rfl rfl rfl ?_)
  try any_goals (first | refine W_skip (d := 29) wk_stepper rfl rfl ?_ | refine W_ar (d := 29) wk_stepper rfl rfl rfl rfl rfl (by first | omega | (dsimp only; omega)) ?_)
  try any_goals (first | refine W_skip (d := 30) wk_stepper rfl rfl ?_ | refine W_idxS1 (d := 30) m wk_stepper (hm_set hm) rfl (by kernel_rfl) rfl rfl rfl rfl ⟨by (first | omega | (dsimp only; omega)), by (first | omega | (dsimp only; omega))⟩ ?_)
  try any_goals (first | refine W_skip (d := 31) wk_stepper rfl rfl ?_ | refine W_loadSI (d := 31) m wk_stepper (hm_set hm) ⟨by (first | omega | (dsimp only; omega)), by (first | omega | (dsimp only; omega))⟩ (by kernel_rfl) rfl rfl rfl ?_)
  try any_goals (first | refine W_skip (d := 32) wk_stepper rfl rfl ?_ | (refine W_callC (d := 32) wk_stepper (hF _) (pr_ix hpr hpF (by (first | omega | (dsimp only; omega))) (by (first | omega | (dsimp only; omega)))) (pr_ix hpr hpF (by (first | omega | (dsimp only; omega))) (by (first | omega | (dsimp only; omega)))) rfl rfl rfl rfl rfl ?_))
  try any_goals (first | refine W_skip (d := 33) wk_stepper rfl rfl ?_ | refine W_cmp (d := 33) wk_stepper rfl rfl rfl rfl rfl ?_ | refine W_strcmp (d := 33) wk_stepper rfl rfl rfl rfl rfl ?_)
  try any_goals (first | refine W_pickT (d := 34) wk_stepper rfl rfl rfl rfl ?_ | refine W_pickF (d := 34) wk_stepper rfl rfl rfl rfl ?_)
  try any_goals (refine Wk_end (by kernel_rfl) (by kernel_rfl) ?_)
  try any_goals (refine G_then ?_)
  try any_goals (first | refine H_condT rfl ?_ | refine H_condF rfl (Wt.un 3 ?_) | (refine H_cond _ rfl (fun hq => ?_) (fun hq => Wt.un 3 ?_) <;> (try simp only [hqs, reduceCtorEq] at hq)))
  try any_goals (refine H_skip ?_)
  try any_goals (refine G_hold 4 ?_)
  try any_goals (refine Wt.out 3 ?_)
  try any_goals (refine H_exit ?_)
  repeat (any_goals (first | refine G_exit_then ?_ | refine G_exit_here ?_ | refine G_exit_far rfl ?_))
  try any_goals (refine G_hold 5 ?_)
  try any_goals (refine Wt.out 4 ?_)
  try any_goals (refine G_then ?_)
  try any_goals (refine H_seq ?_)
  try any_goals (refine H_block ?_)
  try any_goals (refine H_drawT [2, 3, 4] [0, 1, 5, 6, 7, 8, 9, 10, 11, 12, 13, 14] [15, 16, 17] (by kernel_rfl) (by kernel_rfl) upC_sep (fun _ _ _ _ _ h => h) ?_)
  try any_goals (refine L_move rfl rfl ?_)
  try any_goals (refine L_move rfl rfl ?_)
  try any_goals (refine L_ar rfl rfl rfl rfl (by first | omega | (dsimp only; omega)) ?_)
  try any_goals (refine L_nil ?_)
  try any_goals (refine W_move (d := 37) wkH_stepper rfl rfl rfl ?_)
  try any_goals (refine W_move (d := 38) wkH_stepper rfl rfl rfl ?_)
  try any_goals (refine W_move (d := 42) wkH_stepper rfl rfl rfl ?_)
  try any_goals (refine W_move (d := 43) wkH_stepper rfl rfl rfl ?_)
  try any_goals (refine W_ar (d := 44) wkH_stepper rfl rfl rfl rfl rfl (by first | omega | (dsimp only; omega)) ?_)
  try any_goals (refine W_idxS1 (d := 45) m wkH_stepper (hm_set hm) rfl (by kernel_rfl) rfl rfl rfl rfl ⟨by (first | omega | (dsimp only; omega)), by (first | omega | (dsimp only; omega))⟩ ?_)
  try any_goals (refine W_loadSI (d := 46) m wkH_stepper (hm_set hm) ⟨by (first | omega | (dsimp only; omega)), by (first | omega | (dsimp only; omega))⟩ (by kernel_rfl) rfl rfl rfl ?_)
  try any_goals (refine W_move (d := 47) wkH_stepper rfl rfl rfl ?_)
  try any_goals (refine W_move (d := 48) wkH_stepper rfl rfl rfl ?_)
  try any_goals (refine W_idxS1 (d := 49) m wkH_stepper (hm_set hm) rfl (by kernel_rfl) rfl rfl rfl rfl ⟨by (first | omega | (dsimp only; omega)), by (first | omega | (dsimp only; omega))⟩ ?_)
  try any_goals (refine W_loadSI (d := 50) m wkH_stepper (hm_set hm) ⟨by (first | omega | (dsimp only; omega)), by (first | omega | (dsimp only; omega))⟩ (by kernel_rfl) rfl rfl rfl ?_)
  try any_goals (refine W_idxS1 (d := 51) m wkH_stepper (hm_set hm) rfl (by kernel_rfl) rfl rfl rfl rfl ⟨by (first | omega | (dsimp only; omega)), by (first | omega | (dsimp only; omega))⟩ ?_)
  try any_goals (refine WkH_nil ?_)
  try any_goals (refine Sq_storeSI m (hm_set hm) (hav1 _) ⟨by (first | omega | (dsimp only; omega)), by (first | omega | (dsimp only; omega))⟩ (by kernel_rfl) rfl rfl ?_; rw [List.set_set])
  try any_goals (refine W_idxS1 (d := 52) m (sq_stepper upC_sep) (hm_set hm) rfl (by kernel_rfl) rfl rfl rfl rfl ⟨by (first | omega | (dsimp only; omega)), by rw [List.length_set]; (first | omega | (dsimp only; omega))⟩ ?_)
  try any_goals (refine Sq_storeSI m (hm_set hm) (hav1 _) ⟨by (first | omega | (dsimp only; omega)), by rw [List.length_set]; (first | omega | (dsimp only; omega))⟩ (by kernel_rfl) rfl rfl ?_; rw [List.set_set])
  try any_goals (refine Sq_nil ?_)
  repeat (any_goals (first | refine G_exit_then ?_ | refine G_exit_here ?_ | refine G_exit_far rfl ?_ | refine G_normal_block ?_))
  try any_goals (refine G_then ?_)
  try any_goals (refine H_reg ?_)
  try any_goals (refine W_move (d := 35) (sq_stepper upC_sep) rfl rfl rfl ?_)
  try any_goals (refine W_ar (d := 36) (sq_stepper upC_sep) rfl rfl rfl rfl rfl (by first | omega | (dsimp only; omega)) ?_)
  try any_goals (refine W_assign (d := 9) (sq_stepper upC_sep) rfl rfl rfl ?_)
  try any_goals (refine Sq_nil ?_)
  try any_goals (refine G_again (j - 1, sw2 F j (j - 1)) ⟨by dsimp only; omega, by dsimp only; omega, ?_, ?_⟩ (by dsimp only; omega) (by repeat (first | exact trivial | refine ⟨⟨_, rfl, fun _ _ _ h => h⟩, ?_⟩ | refine ⟨⟨_, rfl, fun v w _ h => (show v = _ from h).trans (congrArg (Value.int .i64) (by first | omega | (dsimp only; omega)))⟩, ?_⟩)) (fun w' h => h))
  try any_goals (refine Wt.out 5 ?_)
  repeat (any_goals (first | refine G_exit_then ?_ | refine G_exit_here ?_ | refine G_exit_far rfl ?_ | refine G_normal_block ?_))
  repeat (any_goals (first | refine G_exit_then ?_ | refine G_exit_here ?_ | refine G_exit_far rfl ?_ | refine G_normal_block ?_))
  try any_goals (refine G_then ?_)
  try any_goals (refine H_reg ?_)
  try any_goals (refine W_move (d := 15) (sq_stepper upC_sep) rfl rfl rfl ?_)
  try any_goals (refine W_ar (d := 16) (sq_stepper upC_sep) rfl rfl rfl rfl rfl (by first | omega | (dsimp only; omega)) ?_)
  try any_goals (refine W_assign (d := 8) (sq_stepper upC_sep) rfl rfl rfl ?_)
  try any_goals (refine Sq_nil ?_)
  try any_goals (refine G_again (i + 1, F) ⟨by dsimp only; omega, by dsimp only; omega, ?_, ?_⟩ (by dsimp only; omega) (by repeat (first | exact trivial | refine ⟨⟨_, rfl, fun _ _ _ h => h⟩, ?_⟩ | refine ⟨⟨_, rfl, fun v w _ h => (show v = _ from h).trans (congrArg (Value.int .i64) (by first | omega | (dsimp only; omega)))⟩, ?_⟩)) (fun w' h => h))
  try any_goals (refine Wt.out 2 ?_)
  repeat (any_goals (first | refine G_exit_then ?_ | refine G_exit_here ?_ | refine G_exit_far rfl ?_ | refine G_normal_block ?_))
  all_goals (try dsimp only)
  all_goals first
    | exact hD.st (by omega) (by omega) (by omega)
    | (intro h1 h2 h3
       have h4 := hD.o (j - 1) (by omega) (by omega)
       rw [cmp_lt, hFj, h4] at hq
       by_cases h5 : h1 = j - 1
       · rw [h5]; exact hq
       · exact hlt h1 (by omega) h3)
    | exact (hE.mono h.1 (Int.le_refl _) (by omega)).trans (hD.fr h.1 hj1 hj2 (by omega))
    | (refine dn1_srt h.1 ⟨hj1, hj2⟩ hS (fun x y h1 h2 h3 h4 => ?_) (fun x h1 h2 => ?_) hlt hD
       · obtain ⟨x', g1, g2, e⟩ := hE.s x h1 h2
         rw [e, show y = i by omega, hE.o i (by omega) (by omega)]
         exact hasc x' i g1 g2 (by omega)
       · have h4 := hD.o (j - 1) (by omega) (by omega)
         have h5 := hS.le (i := x) (j := j - 1) h1 (by omega) (by omega)
         have h6 : ¬ cmpN (p (ix F j)) (p (ix F (j - 1))) < 0 := by omega
         rw [cmp_lt, hFj, h4] at h6
         omega)
    | (have hfr : Fr a b D E := by
         by_cases e : i ≤ b
         · have e2 : i = b := by omega
           rw [← e2]
           exact hE
         · have e2 : b = a := by omega
           have e3 : i = a + 1 := by omega
           refine ⟨hE.l, hE.p, fun k h1 h2 => ?_, fun k h1 h2 => by omega⟩
           by_cases hk : k = a
           · obtain ⟨k', g1, g2, e4⟩ := hE.s a (Int.le_refl _) (by omega)
             rw [hk, e4, show k' = a by omega]
           · exact hE.o k h1 (by omega)
       exact RX0 rfl (fun w h9 => ⟨E, ⟨h9, hfr, fun x y h1 h2 h3 => hS x y h1 h2 (by omega)⟩, rfl⟩))
    | trace_state
end
end Go.Proofs.Ytanlaggnhocjhaa
