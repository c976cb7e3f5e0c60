/- Subsets of a block, unions, the order of lists: the reference's and the library's functions. -/
import Derived.Test.YtanlaggnhocjhaaGreatOwnG
import Derived.Test.YtanlaggnhocjhaaGreatBsc
import Derived.Test.YtanlaggnhocjhaaGreatPtW
namespace Go.Proofs.YtanlaggnhocjhaaGreat
set_option linter.unusedSimpArgs false
set_option linter.unusedVariables false
open Go.RowKit Go.ChangeShapes Go.WideShapes Go.ChangeAt Go.Deep
theorem wrapU64 {n : Int} (h : 0 ≤ n ∧ n ≤ 4611686018427387904) : IntKind.u64.wrap n = n := by
  have e : n % 18446744073709551616 = n := by omega
  simp [IntKind.wrap, IntKind.bits, IntKind.signed, e]
theorem wrapI64 {n : Int} (h : 0 ≤ n ∧ n ≤ 4611686018427387904) : IntKind.i64.wrap n = n := by
  have e : n % 18446744073709551616 = n := by omega
  have e2 : ¬ (9223372036854775808 : Int) ≤ n := by omega
  simp [IntKind.wrap, IntKind.bits, IntKind.signed, e, e2]
theorem and_one (n : Nat) : (BitVec.ofInt 64 (n : Int) &&& BitVec.ofInt 64 1).toNat = n % 2 := by
  rw [BitVec.toNat_and, show (BitVec.ofInt 64 (1 : Int)).toNat = 1 from rfl, Nat.and_one_is_mod, BitVec.toNat_ofInt]
  have e : (n : Int) % ((2 ^ 64 : Nat) : Int) = ((n % 2 ^ 64 : Nat) : Int) := by omega
  rw [e, Int.toNat_natCast]
  omega
section
variable {P : Program} {ops : Array Oper} {C : World → Prop} {N : Nat} {M : List (Nat × Pr) → List Oper → Prop} {K : List (Nat × Pr)} {rest : List Oper} {d : Nat} {ty : TypeId} {pos : String} {af : Array Edge} {g : Option (Nat × Bool)}
theorem W_cnv (hM : Stepper P ops C N M) {n : Int} {k k' : IntKind} {x : Operand} {t t' : TypeId} (ht : P.underlying t = some (.int k)) (ht' : P.underlying t' = some (.int k')) (hw : k'.wrap n = n) (hg : wantedK ops K g = some true) (hN : Nat.blt d N = true) (hx : kn K x = some (.inl (.int k n)))
    (h : M ((d, .inl (.int k' n)) :: K) rest) : M K (⟨some d, .convert t t' x, ty, pos, af, g⟩ :: rest) :=
  W_val hM hN hg (fun ρ w _ hk => by
    have hv : ρ x = .int k n := hk x (by simp [Op.operands]) _ hx
    simp [execOp, hv, convert, run_underlying ht, run_underlying ht', Conv.intToInt, hw]) h
theorem W_shrN (hM : Stepper P ops C N M) {s j : Nat} {yk : IntKind} {x y : Operand} {t t' : TypeId} (hg : wantedK ops K g = some true) (hN : Nat.blt d N = true) (hx : kn K x = some (.inl (.int .i64 (s : Int)))) (hy : kn K y = some (.inl (.int yk (j : Int)))) (hj : (j : Int) ≤ 62)
    (h : M ((d, .inl (.int .i64 ((s / 2 ^ j : Nat) : Int))) :: K) rest) : M K (⟨some d, .binOp .shr t x y t', ty, pos, af, g⟩ :: rest) :=
  W_val hM hN hg (fun ρ w _ hk => by
    have hv : ρ x = .int .i64 (s : Int) := hk x (by simp [Op.operands]) _ hx
    have hy' : ρ y = .int yk (j : Int) := hk y (by simp [Op.operands]) _ hy
    have hm : min j IntKind.i64.bits = j := by show min j 64 = j; omega
    have hj0 : ¬ (j : Int) < 0 := by omega
    have hf : (s : Int).fdiv (2 ^ j) = ((s / 2 ^ j : Nat) : Int) := by
      rw [Int.fdiv_eq_ediv_of_nonneg _ (by exact Int.le_of_lt (Int.pow_pos (by decide)))]
      simp
    simp [execOp, hv, hy', binOp, eqGuard, Op.shift, hj0, hm, hf]) h
theorem W_and1 (hM : Stepper P ops C N M) {s : Nat} {x y : Operand} {t t' : TypeId} (hg : wantedK ops K g = some true) (hN : Nat.blt d N = true) (hx : kn K x = some (.inl (.int .i64 (s : Int)))) (hy : kn K y = some (.inl (.int .i64 1)))
    (h : M ((d, .inl (.int .i64 ((s % 2 : Nat) : Int))) :: K) rest) : M K (⟨some d, .binOp .and t x y t', ty, pos, af, g⟩ :: rest) :=
  W_val hM hN hg (fun ρ w _ hk => by
    have hv : ρ x = .int .i64 (s : Int) := hk x (by simp [Op.operands]) _ hx
    have hy' : ρ y = .int .i64 1 := hk y (by simp [Op.operands]) _ hy
    have hb : Op.intBits .and .i64 (s : Int) 1 = pure (.int .i64 ((s % 2 : Nat) : Int)) := by
      have h1 : Op.intBits .and .i64 (s : Int) 1 = pure (.int .i64 (IntKind.i64.wrap ((BitVec.ofInt 64 (s : Int) &&& BitVec.ofInt 64 1).toNat : Int))) := rfl
      rw [h1, and_one, wrapI64 (by omega)]
    simp [execOp, hv, hy', binOp, eqGuard, hb]) h
theorem W_shl1 (hM : Stepper P ops C N M) {j : Nat} {yk : IntKind} {x y : Operand} {t t' : TypeId} (hg : wantedK ops K g = some true) (hN : Nat.blt d N = true) (hx : kn K x = some (.inl (.int .i64 1))) (hy : kn K y = some (.inl (.int yk (j : Int)))) (hj : (j : Int) ≤ 12)
    (h : M ((d, .inl (.int .i64 ((2 ^ j : Nat) : Int))) :: K) rest) : M K (⟨some d, .binOp .shl t x y t', ty, pos, af, g⟩ :: rest) :=
  W_val hM hN hg (fun ρ w _ hk => by
    have hv : ρ x = .int .i64 1 := hk x (by simp [Op.operands]) _ hx
    have hy' : ρ y = .int yk (j : Int) := hk y (by simp [Op.operands]) _ hy
    have hm : min j IntKind.i64.bits = j := by show min j 64 = j; omega
    have hj0 : ¬ (j : Int) < 0 := by omega
    have hp : (2 ^ j : Nat) ≤ 2 ^ 12 := Nat.pow_le_pow_right (by decide) (by omega)
    have hw : IntKind.i64.wrap ((2 ^ j : Nat) : Int) = ((2 ^ j : Nat) : Int) := wrapI64 ⟨Int.natCast_nonneg _, Int.le_trans (Int.ofNat_le.2 hp) (by decide)⟩
    have hc : ((2 ^ j : Nat) : Int) = (2 : Int) ^ j := by simp
    rw [hc] at hw
    simp [execOp, hv, hy', binOp, eqGuard, Op.shift, hj0, hm, hw]) h
end
theorem pow12 {j : Nat} (h : j ≤ 12) : 2 ^ j ≤ 4096 := Nat.pow_le_pow_right (by decide) h
end Go.Proofs.YtanlaggnhocjhaaGreat
namespace Go.Proofs.YtanlaggnhocjhaaGreat
set_option linter.unusedSimpArgs false
set_option linter.unusedVariables false
open Go.RowKit Go.ChangeShapes Go.WideShapes Go.ChangeAt Go.Deep
theorem cB_y {b : List Int} {m k : Nat} (h : ((m / 2 ^ k % 2 : Nat) : Int) = 1) : cB b m (k + 1) = putI (cB b m k) (ix b (k : Int)) := by
  rw [cB, if_pos]
  exact decide_eq_true (by omega)
theorem cB_n {b : List Int} {m k : Nat} (h : ¬ ((m / 2 ^ k % 2 : Nat) : Int) = 1) : cB b m (k + 1) = cB b m k := by
  rw [cB, if_neg]
  intro h9
  exact h (by have := of_decide_eq_true h9; omega)
theorem cT_y {t : Tab} {s k : Nat} (h : ((s / 2 ^ k % 2 : Nat) : Int) = 1) : cT t s (k + 1) = cT t s k ++ [(ix t.T (k : Int)).I] := by
  rw [cT, if_pos]
  exact decide_eq_true (by omega)
theorem cT_n {t : Tab} {s k : Nat} (h : ¬ ((s / 2 ^ k % 2 : Nat) : Int) = 1) : cT t s (k + 1) = cT t s k := by
  rw [cT, if_neg]
  intro h9
  exact h (by have := of_decide_eq_true h9; omega)
theorem putI_len {xs : List Int} {x : Int} : (putI xs x).length ≤ xs.length + 1 := by
  unfold putI
  split
  · omega
  · rw [insAt_ln]
    omega
theorem uniL_len {a b : List Int} : ∀ {k : Nat}, (uniL a b k).length ≤ a.length + k
  | 0 => Nat.le_refl _
  | k + 1 => by
    have h1 := uniL_len (a := a) (b := b) (k := k)
    have h2 := putI_len (xs := uniL a b k) (x := ix b (k : Int))
    rw [uniL]
    omega
theorem lexL_ix : ∀ {a b : List Int} {i : Nat}, i < a.length → i < b.length → (∀ j : Nat, j < i → ix a (j : Int) = ix b (j : Int)) → ix a (i : Int) ≠ ix b (i : Int) → lexL a b = decide (ix a (i : Int) < ix b (i : Int))
  | [], _, _, h, _, _, _ => by simp at h
  | _ :: _, [], _, _, h, _, _ => by simp at h
  | x :: xs, y :: ys, 0, _, _, _, hn => by
    have hn : x ≠ y := hn
    unfold lexL
    rw [if_neg hn]
    rfl
  | x :: xs, y :: ys, i + 1, h1, h2, hall, hn => by
    have h0 : x = y := hall 0 (by omega)
    have e : ∀ (z : Int) (zs : List Int) (j : Nat), ix (z :: zs) ((j + 1 : Nat) : Int) = ix zs (j : Int) := fun _ _ _ => rfl
    rw [e, e] at hn ⊢
    unfold lexL
    rw [if_pos h0]
    exact lexL_ix (by simpa using h1) (by simpa using h2) (fun j hj => by have := hall (j + 1) (by omega); rwa [e, e] at this) hn
theorem lexL_end : ∀ {a b : List Int} {i : Nat}, i ≤ a.length → i ≤ b.length → (∀ j : Nat, j < i → ix a (j : Int) = ix b (j : Int)) → (i = a.length ∨ i = b.length) → lexL a b = decide (a.length < b.length)
  | [], [], _, _, _, _, _ => rfl
  | [], _ :: _, _, _, _, _, _ => by simp [lexL]
  | _ :: _, [], _, _, _, _, _ => by simp [lexL]
  | x :: xs, y :: ys, 0, _, _, _, h => by simp at h
  | x :: xs, y :: ys, i + 1, h1, h2, hall, h => by
    have h0 : x = y := hall 0 (by omega)
    have e : ∀ (z : Int) (zs : List Int) (j : Nat), ix (z :: zs) ((j + 1 : Nat) : Int) = ix zs (j : Int) := fun _ _ _ => rfl
    unfold lexL
    rw [if_pos h0, lexL_end (i := i) (by simpa using h1) (by simpa using h2) (fun j hj => by have := hall (j + 1) (by omega); rwa [e, e] at this) (by simpa using h)]
    simp
/-- The library's comparison. -/
def cmpL (a b : List Int) : Int := if lexL a b then -1 else if lexL b a then 1 else 0
theorem cmpL_ix {a b : List Int} {i : Nat} (h1 : i < a.length) (h2 : i < b.length) (hall : ∀ j : Nat, j < i → ix a (j : Int) = ix b (j : Int)) (hn : cmpN (ix a (i : Int)) (ix b (i : Int)) ≠ 0) : cmpL a b = cmpN (ix a (i : Int)) (ix b (i : Int)) := by
  have hne : ix a (i : Int) ≠ ix b (i : Int) := fun e => hn (by rw [e]; unfold cmpN; simp)
  unfold cmpL cmpN
  rw [lexL_ix h1 h2 hall hne, lexL_ix h2 h1 (fun j hj => (hall j hj).symm) hne.symm]
  simp only [decide_eq_true_eq]
theorem cmpN_0 {x y : Int} (h : cmpN x y = 0) : x = y := by
  unfold cmpN at h
  split at h
  · omega
  · split at h <;> omega
theorem cmpL_end {a b : List Int} {i : Nat} (h1 : i ≤ a.length) (h2 : i ≤ b.length) (hall : ∀ j : Nat, j < i → ix a (j : Int) = ix b (j : Int)) (h : i = a.length ∨ i = b.length) : cmpL a b = if a.length < b.length then -1 else if b.length < a.length then 1 else 0 := by
  unfold cmpL
  rw [lexL_end h1 h2 hall h, lexL_end h2 h1 (fun j hj => (hall j hj).symm) (by omega)]
  simp only [decide_eq_true_eq]
theorem cmpL_lt {a b : List Int} : cmpL a b < 0 ↔ lexL a b = true := by
  unfold cmpL
  cases lexL a b
  · simp
    split <;> omega
  · simp
theorem or_ky {c d : Int} {a b : List Int} : orL [cmpN c d, cmpN a.length b.length, cmpL a b] < 0 ↔ kyL c a d b = true := by
  rw [kyL_t, ← cmpL_lt]
  unfold orL orL orL orL
  have h1 := cmpN_0 (x := c) (y := d)
  have h2 := cmpN_0 (x := (a.length : Int)) (y := (b.length : Int))
  have e1 : cmpN c d = if c < d then -1 else if d < c then 1 else 0 := rfl
  have e2 : cmpN (a.length : Int) b.length = if (a.length : Int) < b.length then -1 else if (b.length : Int) < a.length then 1 else 0 := rfl
  split
  · split
    · split
      · omega
      · omega
    · split at e2
      · omega
      · split at e2 <;> omega
  · split at e1
    · omega
    · split at e1 <;> omega
theorem ct_l19Subset {e : Option TypeId} (b : List Int) (m : Nat) (hb : b.length ≤ 12) : CT Tryz.prog 52 [.inr (uS e pI b), .inl (.int .i64 (m : Int))] (.inr (uS (some 3) pI (cB b m b.length))) := by
  refine CT_of Tryz.func52 rfl rfl rfl (fun w => ?_)
  have hC := upC_ext w
  try any_goals ((refine H_seq ?_; try refine H_reg ?_))
  try any_goals (refine W_assign (d := 4) (sq_stepper hC) rfl rfl rfl ?_)
  try any_goals ((refine Sq_nil ?_; try refine G_then ?_))
  try any_goals ((refine H_seq ?_; try refine H_reg ?_))
  try any_goals ((refine W_buildS (d := 7) (sq_stepper hC) [] pI [] (e := 3) (by kernel_rfl) (by kernel_rfl) rfl rfl (by kernel_rfl) rfl rfl rfl trivial ?_))
  try any_goals (refine W_assign (d := 5) (sq_stepper hC) rfl rfl rfl ?_)
  try any_goals ((refine Sq_nil ?_; try refine G_then ?_))
  try any_goals (refine H_seq ?_)
  try any_goals ((refine H_seq ?_; try refine H_reg ?_))
  try any_goals (refine W_assign (d := 6) (sq_stepper hC) rfl rfl rfl ?_)
  try any_goals ((refine Sq_nil ?_; try refine G_then ?_))
  try any_goals (refine H_block ?_)
  try any_goals ((refine H_loop (σ := Nat) (fun i => i ≤ b.length) (fun i => [(0, .inr (uS e pI b)), (1, .inl (.int .i64 (m : Int))), (5, .inr (uS (some 3) pI (cB b m i))), (6, .inl (.int .i64 i))]) (fun _ => Ext w) (fun i => b.length - i) 0 (Nat.zero_le _) (fun a w' h => h.sub (by repeat (first | exact trivial | refine ⟨⟨_, rfl, fun _ _ _ h => h⟩, ?_⟩ | refine ⟨⟨_, rfl, fun v w _ h => (show v = _ from h).trans (congrArg (Value.int .i64) (by first | omega | (dsimp only; omega)))⟩, ?_⟩)) (fun _ h => h)) (fun i hi => ?_); have hcl := cB_len (b := b) (m := m) (k := i)))
  try any_goals (refine H_seq ?_)
  try any_goals ((refine H_seq ?_; try refine H_reg ?_))
  try any_goals (refine W_move (d := 8) (sq_stepper hC) rfl rfl rfl ?_)
  try any_goals (refine W_move (d := 9) (sq_stepper hC) rfl rfl rfl ?_)
  try any_goals (refine W_len (d := 10) (sq_stepper hC) (by kernel_rfl) rfl rfl rfl ?_)
  try any_goals (refine W_cmp (d := 11) (sq_stepper hC) rfl rfl rfl rfl rfl ?_)
  try any_goals ((refine Sq_nil ?_; try refine G_then ?_))
  try any_goals ((refine H_cond _ rfl (fun hq => ?_) (fun hq => Wt.un 0 ?_) <;> (try simp only [hqs, reduceCtorEq] at hq)))
  try any_goals (refine H_skip ?_)
  try any_goals (refine G_hold 1 ?_)
  try any_goals (refine Wt.out 0 ?_)
  try any_goals (refine H_exit ?_)
  repeat (any_goals (first | refine G_exit_then ?_ | refine G_exit_here ?_ | refine G_exit_far rfl ?_))
  try any_goals (refine G_hold 2 ?_)
  try any_goals (refine Wt.out 1 ?_)
  try any_goals (refine G_then ?_)
  try any_goals (refine H_seq ?_)
  try any_goals (refine H_block ?_)
  try any_goals ((refine H_seq ?_; try refine H_reg ?_))
  try any_goals (refine W_move (d := 14) (sq_stepper hC) rfl rfl rfl ?_)
  try any_goals (refine W_move (d := 15) (sq_stepper hC) rfl rfl rfl ?_)
  try any_goals (refine W_cnv (d := 16) (sq_stepper hC) Tryz.underlying3 Tryz.underlying93 (wrapU64 ⟨by omega, by omega⟩) rfl rfl rfl ?_)
  try any_goals (refine W_shrN (d := 17) (sq_stepper hC) rfl rfl rfl rfl (by omega) ?_)
  try any_goals (refine W_and1 (d := 18) (sq_stepper hC) rfl rfl rfl rfl ?_)
  try any_goals (refine W_cmp (d := 19) (sq_stepper hC) rfl rfl rfl rfl rfl ?_)
  try any_goals ((refine Sq_nil ?_; try refine G_then ?_))
  try any_goals ((refine H_cond _ rfl (fun hq => ?_) (fun hq => Wt.un 3 ?_) <;> (try simp only [hqs, reduceCtorEq] at hq)))
  try any_goals (refine H_reg ?_)
  try any_goals (refine W_move (d := 20) (sq_stepper hC) rfl rfl rfl ?_)
  try any_goals (refine W_move (d := 21) (sq_stepper hC) rfl rfl rfl ?_)
  try any_goals (refine W_move (d := 22) (sq_stepper hC) rfl rfl rfl ?_)
  try any_goals (refine W_index (d := 23) (sq_stepper hC) (by kernel_rfl) rfl rfl rfl rfl (by first | omega | (dsimp only; omega)) ?_)
  try any_goals (refine W_loadI (d := 24) (sq_stepper hC) (by kernel_rfl) rfl rfl rfl ?_)
  try any_goals (refine W_ct (d := 25) (sq_stepper hC) (ct_l1Put (cB b m i) (ix b (i : Int)) (by omega)) rfl rfl rfl (by kernel_rfl) ?_)
  try any_goals (refine W_assign (d := 5) (sq_stepper hC) rfl rfl rfl ?_)
  try any_goals (refine Sq_nil ?_)
  try any_goals (refine Wt.out 3 ?_)
  try any_goals (refine H_skip ?_)
  repeat (any_goals (first | refine G_exit_then ?_ | refine G_exit_here ?_ | refine G_exit_far rfl ?_ | refine G_normal_block ?_))
  try any_goals (refine G_then ?_)
  try any_goals (refine H_reg ?_)
  try any_goals (refine W_move (d := 12) (sq_stepper hC) rfl rfl rfl ?_)
  try any_goals (refine W_ar (d := 13) (sq_stepper hC) rfl rfl rfl rfl rfl (by first | omega | (dsimp only; omega)) ?_)
  try any_goals (refine W_assign (d := 6) (sq_stepper hC) rfl rfl rfl ?_)
  try any_goals (refine Sq_nil ?_)
  try any_goals (first | (have hs := cB_y (b := b) hq; exact G_again (i + 1) (by omega) (by omega) (by rw [hs]; exact (by repeat (first | exact trivial | refine ⟨⟨_, rfl, fun _ _ _ h => h⟩, ?_⟩ | refine ⟨⟨_, rfl, fun v w _ h => (show v = _ from h).trans (congrArg (Value.int .i64) (by first | omega | (dsimp only; omega)))⟩, ?_⟩))) (fun _ h => h)) | (have hs := cB_n (b := b) hq; exact G_again (i + 1) (by omega) (by omega) (by rw [hs]; exact (by repeat (first | exact trivial | refine ⟨⟨_, rfl, fun _ _ _ h => h⟩, ?_⟩ | refine ⟨⟨_, rfl, fun v w _ h => (show v = _ from h).trans (congrArg (Value.int .i64) (by first | omega | (dsimp only; omega)))⟩, ?_⟩))) (fun _ h => h)))
  try any_goals (refine Wt.out 2 ?_)
  repeat (any_goals (first | refine G_exit_then ?_ | refine G_exit_here ?_ | refine G_exit_far rfl ?_ | refine G_normal_block ?_))
  try any_goals (refine G_then ?_)
  try any_goals ((refine H_seq ?_; try refine H_reg ?_))
  try any_goals (refine W_move (d := 26) (sq_stepper hC) rfl rfl rfl ?_)
  try any_goals (refine W_assign (d := 4) (sq_stepper hC) rfl rfl rfl ?_)
  try any_goals ((refine Sq_nil ?_; try refine G_then ?_))
  try any_goals (refine H_ret ?_)
  repeat (any_goals (first | refine G_ret_then ?_ | refine G_ret_block ?_))
  all_goals first
    | exact R1 rfl (fun _ h => h) rfl (fun v w' _ hv => by rw [show b.length = i by omega]; exact hv)
    | trace_state
theorem ct_l19Union {e : Option TypeId} (a b : List Int) (ha : a.length ≤ 12) (hb : b.length ≤ 12) : CT Tryz.prog 31 [.inr (uS (some 3) pI a), .inr (uS e pI b)] (.inr (uS (some 3) pI (uniL a b b.length))) := by
  refine CT_of Tryz.func31 rfl rfl rfl (fun w => ?_)
  have hC := upC_ext w
  try any_goals ((refine H_seq ?_; try refine H_reg ?_))
  try any_goals (refine W_assign (d := 4) (sq_stepper hC) rfl rfl rfl ?_)
  try any_goals ((refine Sq_nil ?_; try refine G_then ?_))
  try any_goals (refine H_seq ?_)
  try any_goals ((refine H_seq ?_; try refine H_reg ?_))
  try any_goals (refine W_assign (d := 5) (sq_stepper hC) rfl rfl rfl ?_)
  try any_goals ((refine Sq_nil ?_; try refine G_then ?_))
  try any_goals (refine H_block ?_)
  try any_goals ((refine H_loop (σ := Nat) (fun i => i ≤ b.length) (fun i => [(0, .inr (uS (some 3) pI (uniL a b i))), (1, .inr (uS e pI b)), (5, .inl (.int .i64 i))]) (fun _ => Ext w) (fun i => b.length - i) 0 (Nat.zero_le _) (fun a w' h => h.sub (by repeat (first | exact trivial | refine ⟨⟨_, rfl, fun _ _ _ h => h⟩, ?_⟩ | refine ⟨⟨_, rfl, fun v w _ h => (show v = _ from h).trans (congrArg (Value.int .i64) (by first | omega | (dsimp only; omega)))⟩, ?_⟩)) (fun _ h => h)) (fun i hi => ?_); have hcl := uniL_len (a := a) (b := b) (k := i)))
  try any_goals (refine H_seq ?_)
  try any_goals ((refine H_seq ?_; try refine H_reg ?_))
  try any_goals (refine W_move (d := 6) (sq_stepper hC) rfl rfl rfl ?_)
  try any_goals (refine W_move (d := 7) (sq_stepper hC) rfl rfl rfl ?_)
  try any_goals (refine W_len (d := 8) (sq_stepper hC) (by kernel_rfl) rfl rfl rfl ?_)
  try any_goals (refine W_cmp (d := 9) (sq_stepper hC) rfl rfl rfl rfl rfl ?_)
  try any_goals ((refine Sq_nil ?_; try refine G_then ?_))
  try any_goals ((refine H_cond _ rfl (fun hq => ?_) (fun hq => ?_) <;> (try simp only [hqs, reduceCtorEq] at hq)))
  try any_goals (refine H_skip ?_)
  try any_goals (refine H_exit ?_)
  repeat (any_goals (first | refine G_exit_then ?_ | refine G_exit_here ?_ | refine G_exit_far rfl ?_))
  try any_goals (refine G_then ?_)
  try any_goals (refine H_seq ?_)
  try any_goals (refine H_block ?_)
  try any_goals (refine H_reg ?_)
  try any_goals (refine W_move (d := 12) (sq_stepper hC) rfl rfl rfl ?_)
  try any_goals (refine W_move (d := 13) (sq_stepper hC) rfl rfl rfl ?_)
  try any_goals (refine W_move (d := 14) (sq_stepper hC) rfl rfl rfl ?_)
  try any_goals (refine W_index (d := 15) (sq_stepper hC) (by kernel_rfl) rfl rfl rfl rfl (by first | omega | (dsimp only; omega)) ?_)
  try any_goals (refine W_loadI (d := 16) (sq_stepper hC) (by kernel_rfl) rfl rfl rfl ?_)
  try any_goals (refine W_ct (d := 17) (sq_stepper hC) (ct_l1Put (uniL a b i) (ix b (i : Int)) (by omega)) rfl rfl rfl (by kernel_rfl) ?_)
  try any_goals (refine W_assign (d := 0) (sq_stepper hC) rfl rfl rfl ?_)
  try any_goals (refine Sq_nil ?_)
  repeat (any_goals (first | refine G_exit_then ?_ | refine G_exit_here ?_ | refine G_exit_far rfl ?_ | refine G_normal_block ?_))
  try any_goals (refine G_then ?_)
  try any_goals (refine H_reg ?_)
  try any_goals (refine W_move (d := 10) (sq_stepper hC) rfl rfl rfl ?_)
  try any_goals (refine W_ar (d := 11) (sq_stepper hC) rfl rfl rfl rfl rfl (by first | omega | (dsimp only; omega)) ?_)
  try any_goals (refine W_assign (d := 5) (sq_stepper hC) rfl rfl rfl ?_)
  try any_goals (refine Sq_nil ?_)
  try any_goals (refine G_again (i + 1) (by omega) (by omega) (by rw [uniL]; exact (by repeat (first | exact trivial | refine ⟨⟨_, rfl, fun _ _ _ h => h⟩, ?_⟩ | refine ⟨⟨_, rfl, fun v w _ h => (show v = _ from h).trans (congrArg (Value.int .i64) (by first | omega | (dsimp only; omega)))⟩, ?_⟩))) (fun _ h => h))
  repeat (any_goals (first | refine G_exit_then ?_ | refine G_exit_here ?_ | refine G_exit_far rfl ?_ | refine G_normal_block ?_))
  try any_goals (refine W_move (d := 18) (sq_stepper hC) rfl rfl rfl ?_)
  try any_goals (refine W_assign (d := 4) (sq_stepper hC) rfl rfl rfl ?_)
  try any_goals ((refine Sq_nil ?_; try refine G_then ?_))
  try any_goals (refine H_ret ?_)
  repeat (any_goals (first | refine G_ret_then ?_ | refine G_ret_block ?_))
  all_goals first
    | exact R1 rfl (fun _ h => h) rfl (fun v w' _ hv => by rw [show b.length = i by omega]; exact hv)
    | trace_state
theorem ct_l19Smaller {e1 e2 : Option TypeId} (a b : List Int) : CT Tryz.prog 59 [.inr (uS e1 pI a), .inr (uS e2 pI b)] (.inl (.bool (lexL a b))) := by
  refine CT_len fun hlen => ?_
  refine CT_of Tryz.func59 rfl rfl rfl (fun w => ?_)
  have hC := upC_ext w
  try any_goals ((refine H_seq ?_; try refine H_reg ?_))
  try any_goals (refine W_assign (d := 4) (sq_stepper hC) rfl rfl rfl ?_)
  try any_goals ((refine Sq_nil ?_; try refine G_then ?_))
  try any_goals (refine H_seq ?_)
  try any_goals ((refine H_seq ?_; try refine H_reg ?_))
  try any_goals (refine W_assign (d := 5) (sq_stepper hC) rfl rfl rfl ?_)
  try any_goals ((refine Sq_nil ?_; try refine G_then ?_))
  try any_goals (refine H_block ?_)
  try any_goals ((refine H_loop (σ := Nat) (fun i => (i ≤ a.length ∧ i ≤ b.length) ∧ ∀ j : Nat, j < i → ix a (j : Int) = ix b (j : Int)) (fun i => [(0, .inr (uS e1 pI a)), (1, .inr (uS e2 pI b)), (5, .inl (.int .i64 i))]) (fun _ => Ext w) (fun i => a.length - i) 0 ⟨⟨Nat.zero_le _, Nat.zero_le _⟩, fun j h => by omega⟩ (fun a w' h => h.sub (by repeat (first | exact trivial | refine ⟨⟨_, rfl, fun _ _ _ h => h⟩, ?_⟩ | refine ⟨⟨_, rfl, fun v w _ h => (show v = _ from h).trans (congrArg (Value.int .i64) (by first | omega | (dsimp only; omega)))⟩, ?_⟩)) (fun _ h => h)) (fun i hi => ?_); obtain ⟨hi, hall⟩ := hi))
  try any_goals (refine H_seq ?_)
  try any_goals ((refine H_seq ?_; try refine H_reg ?_))
  try any_goals (refine W_move (d := 6) (sq_stepper hC) rfl rfl rfl ?_)
  try any_goals (refine W_move (d := 7) (sq_stepper hC) rfl rfl rfl ?_)
  try any_goals (refine W_len (d := 8) (sq_stepper hC) (by kernel_rfl) rfl rfl rfl ?_)
  try any_goals (refine W_cmp (d := 9) (sq_stepper hC) rfl rfl rfl rfl rfl ?_)
  try any_goals (refine W_move (d := 10) (sq_stepper hC) rfl rfl rfl ?_)
  try any_goals ((refine W_splitG (sq_stepper hC) _ rfl _ rfl (fun hq => ?_) (fun hq => ?_) <;> ((try simp only [hqs, reduceCtorEq] at hq); try (have hq' := hq; clear hq))))
  try any_goals (first | refine W_skip (d := 11) (sq_stepper hC) rfl rfl ?_ | refine W_move (d := 11) (sq_stepper hC) rfl rfl rfl ?_)
  try any_goals (first | refine W_skip (d := 12) (sq_stepper hC) rfl rfl ?_ | refine W_move (d := 12) (sq_stepper hC) rfl rfl rfl ?_)
  try any_goals (first | refine W_skip (d := 13) (sq_stepper hC) rfl rfl ?_ | refine W_len (d := 13) (sq_stepper hC) (by kernel_rfl) rfl rfl rfl ?_)
  try any_goals (first | refine W_skip (d := 14) (sq_stepper hC) rfl rfl ?_ | refine W_cmp (d := 14) (sq_stepper hC) rfl rfl rfl rfl rfl ?_)
  try any_goals (first | refine W_pickT (d := 15) (sq_stepper hC) rfl rfl rfl rfl ?_ | refine W_pickF (d := 15) (sq_stepper hC) rfl rfl rfl rfl ?_)
  try any_goals ((refine Sq_nil ?_; try refine G_then ?_))
  try any_goals (first | refine H_condF rfl (Wt.un 0 ?_) | (refine H_cond _ rfl (fun hq => ?_) (fun hq => Wt.un 0 ?_) <;> (try simp only [hqs, reduceCtorEq] at hq)))
  try any_goals (refine H_skip ?_)
  try any_goals (refine G_hold 1 ?_)
  try any_goals (refine Wt.out 0 ?_)
  try any_goals (refine H_exit ?_)
  repeat (any_goals (first | refine G_exit_then ?_ | refine G_exit_here ?_ | refine G_exit_far rfl ?_))
  try any_goals (refine G_hold 2 ?_)
  try any_goals (refine Wt.out 1 ?_)
  try any_goals (refine G_then ?_)
  try any_goals (refine H_seq ?_)
  try any_goals (refine H_block ?_)
  try any_goals (refine H_seq ?_)
  try any_goals (refine H_draw' (by kernel_rfl) hC ?_)
  try any_goals (refine W_move (d := 18) wk_stepper rfl rfl rfl ?_)
  try any_goals (refine W_move (d := 19) wk_stepper rfl rfl rfl ?_)
  try any_goals (refine W_index (d := 20) wk_stepper (by kernel_rfl) rfl rfl rfl rfl (by first | omega | (dsimp only; omega)) ?_)
  try any_goals (refine W_loadI (d := 21) wk_stepper (by kernel_rfl) rfl rfl rfl ?_)
  try any_goals (refine W_move (d := 22) wk_stepper rfl rfl rfl ?_)
  try any_goals (refine W_move (d := 23) wk_stepper rfl rfl rfl ?_)
  try any_goals (refine W_index (d := 24) wk_stepper (by kernel_rfl) rfl rfl rfl rfl (by first | omega | (dsimp only; omega)) ?_)
  try any_goals (refine W_loadI (d := 25) wk_stepper (by kernel_rfl) rfl rfl rfl ?_)
  try any_goals (refine W_cmp (d := 26) wk_stepper rfl rfl rfl rfl rfl ?_)
  try any_goals (refine Wk_end (by kernel_rfl) (by kernel_rfl) ?_)
  try any_goals (refine G_then ?_)
  try any_goals ((refine H_cond _ rfl (fun hq => ?_) (fun hq => Wt.un 3 ?_) <;> (try simp only [hqs, reduceCtorEq] at hq)))
  try any_goals (refine H_seq ?_)
  try any_goals (refine H_draw' (by kernel_rfl) hC ?_)
  try any_goals (refine W_move (d := 27) wk_stepper rfl rfl rfl ?_)
  try any_goals (refine W_move (d := 28) wk_stepper rfl rfl rfl ?_)
  try any_goals (refine W_index (d := 29) wk_stepper (by kernel_rfl) rfl rfl rfl rfl (by first | omega | (dsimp only; omega)) ?_)
  try any_goals (refine W_loadI (d := 30) wk_stepper (by kernel_rfl) rfl rfl rfl ?_)
  try any_goals (refine W_move (d := 31) wk_stepper rfl rfl rfl ?_)
  try any_goals (refine W_move (d := 32) wk_stepper rfl rfl rfl ?_)
  try any_goals (refine W_index (d := 33) wk_stepper (by kernel_rfl) rfl rfl rfl rfl (by first | omega | (dsimp only; omega)) ?_)
  try any_goals (refine W_loadI (d := 34) wk_stepper (by kernel_rfl) rfl rfl rfl ?_)
  try any_goals (refine W_cmp (d := 35) wk_stepper rfl rfl rfl rfl rfl ?_)
  try any_goals (refine Wk_assign (by kernel_rfl) (by kernel_rfl) ?_)
  try any_goals (refine W_assign (d := 4) (sq_stepper hC) rfl rfl rfl ?_)
  try any_goals ((refine Sq_nil ?_; try refine G_then ?_))
  try any_goals (refine H_ret ?_)
  repeat (any_goals (first | refine G_ret_then ?_ | refine G_ret_block ?_))
  try any_goals (refine Wt.out 3 ?_)
  try any_goals (refine H_skip ?_)
  repeat (any_goals (first | refine G_exit_then ?_ | refine G_exit_here ?_ | refine G_exit_far rfl ?_ | refine G_normal_block ?_))
  try any_goals (refine G_then ?_)
  try any_goals (refine H_reg ?_)
  try any_goals (refine W_move (d := 16) (sq_stepper hC) rfl rfl rfl ?_)
  try any_goals (refine W_ar (d := 17) (sq_stepper hC) rfl rfl rfl rfl rfl (by first | omega | (dsimp only; omega)) ?_)
  try any_goals (refine W_assign (d := 5) (sq_stepper hC) rfl rfl rfl ?_)
  try any_goals (refine Sq_nil ?_)
  try any_goals (refine G_again (i + 1) ⟨by omega, ?_⟩ (by omega) (by repeat (first | exact trivial | refine ⟨⟨_, rfl, fun _ _ _ h => h⟩, ?_⟩ | refine ⟨⟨_, rfl, fun v w _ h => (show v = _ from h).trans (congrArg (Value.int .i64) (by first | omega | (dsimp only; omega)))⟩, ?_⟩)) (fun _ h => h))
  try any_goals (refine Wt.out 2 ?_)
  repeat (any_goals (first | refine G_exit_then ?_ | refine G_exit_here ?_ | refine G_exit_far rfl ?_ | refine G_normal_block ?_))
  try any_goals (refine G_then ?_)
  try any_goals ((refine H_seq ?_; try refine H_reg ?_))
  try any_goals (refine W_move (d := 36) (sq_stepper hC) rfl rfl rfl ?_)
  try any_goals (refine W_len (d := 37) (sq_stepper hC) (by kernel_rfl) rfl rfl rfl ?_)
  try any_goals (refine W_move (d := 38) (sq_stepper hC) rfl rfl rfl ?_)
  try any_goals (refine W_len (d := 39) (sq_stepper hC) (by kernel_rfl) rfl rfl rfl ?_)
  try any_goals (refine W_cmp (d := 40) (sq_stepper hC) rfl rfl rfl rfl rfl ?_)
  try any_goals (refine W_assign (d := 4) (sq_stepper hC) rfl rfl rfl ?_)
  try any_goals ((refine Sq_nil ?_; try refine G_then ?_))
  try any_goals (refine H_ret ?_)
  repeat (any_goals (first | refine G_ret_then ?_ | refine G_ret_block ?_))
  all_goals first
    | (intro j hj
       by_cases h1 : j < i
       · exact hall j h1
       · have e : j = i := by omega
         rw [e]
         omega)
    | exact R1v rfl (fun _ h => h) rfl (congrArg Value.bool (lexL_ix (i := i) (by omega) (by omega) hall (by omega)).symm)
    | exact R1v rfl (fun _ h => h) rfl (congrArg Value.bool (by rw [lexL_end (i := i) (by omega) (by omega) hall (by omega)]; exact decide_eq_decide.2 (by omega)))
    | trace_state
theorem ct_Compare2 {e1 e2 : Option TypeId} (a b : List Int) : CT Tryz.prog 42 [.inr (uS e1 pI a), .inr (uS e2 pI b)] (.inl (.int .i64 (cmpL a b))) := by
  refine CT_len fun hlen => ?_
  refine CT_of Tryz.func42 rfl rfl rfl (fun w => ?_)
  have hC := upC_ext w
  try any_goals ((refine H_seq ?_; try refine H_reg ?_))
  try any_goals (refine W_assign (d := 4) (sq_stepper hC) rfl rfl rfl ?_)
  try any_goals ((refine Sq_nil ?_; try refine G_then ?_))
  try any_goals (refine H_seq ?_)
  try any_goals ((refine H_seq ?_; try refine H_reg ?_))
  try any_goals (refine W_move (d := 9) (sq_stepper hC) rfl rfl rfl ?_)
  try any_goals (refine W_len (d := 10) (sq_stepper hC) (by kernel_rfl) rfl rfl rfl ?_)
  try any_goals (refine W_move (d := 11) (sq_stepper hC) rfl rfl rfl ?_)
  try any_goals ((refine Sq_nil ?_; try refine G_then ?_))
  try any_goals (refine H_block ?_)
  try any_goals ((refine H_loop (σ := Nat) (fun i => (i ≤ a.length ∧ i ≤ b.length) ∧ ∀ j : Nat, j < i → ix a (j : Int) = ix b (j : Int)) (fun i => [(0, .inr (uS e1 pI a)), (1, .inr (uS e2 pI b)), (9, .inr (uS e1 pI a)), (10, .inl (.int .i64 a.length)), (11, .inl (.int .i64 i))]) (fun _ => Ext w) (fun i => a.length - i) 0 ⟨⟨Nat.zero_le _, Nat.zero_le _⟩, fun j h => by omega⟩ (fun a w' h => h.sub (by repeat (first | exact trivial | refine ⟨⟨_, rfl, fun _ _ _ h => h⟩, ?_⟩ | refine ⟨⟨_, rfl, fun v w _ h => (show v = _ from h).trans (congrArg (Value.int .i64) (by first | omega | (dsimp only; omega)))⟩, ?_⟩)) (fun _ h => h)) (fun i hi => ?_); obtain ⟨hi, hall⟩ := hi))
  try any_goals ((refine H_seq ?_; try refine H_reg ?_))
  try any_goals (refine W_cmp (d := 12) (sq_stepper hC) rfl rfl rfl rfl rfl ?_)
  try any_goals ((refine Sq_nil ?_; try refine G_then ?_))
  try any_goals (refine H_seq ?_)
  try any_goals ((refine H_cond _ rfl (fun hq => ?_) (fun hq => Wt.un 0 ?_) <;> (try simp only [hqs, reduceCtorEq] at hq)))
  try any_goals (refine H_skip ?_)
  try any_goals (refine G_hold 1 ?_)
  try any_goals (refine Wt.out 0 ?_)
  try any_goals (refine H_exit ?_)
  repeat (any_goals (first | refine G_exit_then ?_ | refine G_exit_here ?_ | refine G_exit_far rfl ?_))
  try any_goals (refine G_hold 2 ?_)
  try any_goals (refine Wt.out 1 ?_)
  try any_goals (refine G_then ?_)
  try any_goals (refine H_seq ?_)
  try any_goals (refine H_block ?_)
  try any_goals ((refine H_seq ?_; try refine H_reg ?_))
  try any_goals (refine W_move (d := 13) (sq_stepper hC) rfl rfl rfl ?_)
  try any_goals (refine W_index (d := 14) (sq_stepper hC) (by kernel_rfl) rfl rfl rfl rfl (by first | omega | (dsimp only; omega)) ?_)
  try any_goals (refine W_loadI (d := 15) (sq_stepper hC) (by kernel_rfl) rfl rfl rfl ?_)
  try any_goals (refine W_assign (d := 5) (sq_stepper hC) rfl rfl rfl ?_)
  try any_goals (refine W_assign (d := 6) (sq_stepper hC) rfl rfl rfl ?_)
  try any_goals ((refine Sq_nil ?_; try refine G_then ?_))
  try any_goals (refine H_seq ?_)
  try any_goals ((refine H_seq ?_; try refine H_reg ?_))
  try any_goals (refine W_move (d := 16) (sq_stepper hC) rfl rfl rfl ?_)
  try any_goals (refine W_move (d := 17) (sq_stepper hC) rfl rfl rfl ?_)
  try any_goals (refine W_len (d := 18) (sq_stepper hC) (by kernel_rfl) rfl rfl rfl ?_)
  try any_goals (refine W_cmp (d := 19) (sq_stepper hC) rfl rfl rfl rfl rfl ?_)
  try any_goals ((refine Sq_nil ?_; try refine G_then ?_))
  try any_goals ((refine H_cond _ rfl (fun hq => ?_) (fun hq => Wt.un 3 ?_) <;> (try simp only [hqs, reduceCtorEq] at hq)))
  try any_goals ((refine H_seq ?_; try refine H_reg ?_))
  try any_goals (refine W_assign (d := 4) (sq_stepper hC) rfl rfl rfl ?_)
  try any_goals ((refine Sq_nil ?_; try refine G_then ?_))
  try any_goals (refine H_ret ?_)
  repeat (any_goals (first | refine G_ret_then ?_ | refine G_ret_block ?_))
  try any_goals (refine Wt.out 3 ?_)
  try any_goals (refine H_skip ?_)
  try any_goals (refine G_then ?_)
  try any_goals ((refine H_seq ?_; try refine H_reg ?_))
  try any_goals (refine W_move (d := 20) (sq_stepper hC) rfl rfl rfl ?_)
  try any_goals (refine W_move (d := 21) (sq_stepper hC) rfl rfl rfl ?_)
  try any_goals (refine W_index (d := 22) (sq_stepper hC) (by kernel_rfl) rfl rfl rfl rfl (by first | omega | (dsimp only; omega)) ?_)
  try any_goals (refine W_loadI (d := 23) (sq_stepper hC) (by kernel_rfl) rfl rfl rfl ?_)
  try any_goals (refine W_assign (d := 7) (sq_stepper hC) rfl rfl rfl ?_)
  try any_goals ((refine Sq_nil ?_; try refine G_then ?_))
  try any_goals ((refine H_seq ?_; try refine H_reg ?_))
  try any_goals (refine W_move (d := 24) (sq_stepper hC) rfl rfl rfl ?_)
  try any_goals (refine W_move (d := 25) (sq_stepper hC) rfl rfl rfl ?_)
  try any_goals (refine W_ct (d := 26) (sq_stepper hC) (ct_Compare _ _) rfl rfl rfl (by kernel_rfl) ?_)
  try any_goals (refine W_assign (d := 8) (sq_stepper hC) rfl rfl rfl ?_)
  try any_goals ((refine Sq_nil ?_; try refine G_then ?_))
  try any_goals ((refine H_seq ?_; try refine H_reg ?_))
  try any_goals (refine W_move (d := 27) (sq_stepper hC) rfl rfl rfl ?_)
  try any_goals (refine W_cmp (d := 28) (sq_stepper hC) rfl rfl rfl rfl rfl ?_)
  try any_goals ((refine Sq_nil ?_; try refine G_then ?_))
  try any_goals ((refine H_cond _ rfl (fun hq => ?_) (fun hq => Wt.un 5 ?_) <;> (try simp only [hqs, reduceCtorEq] at hq)))
  try any_goals ((refine H_seq ?_; try refine H_reg ?_))
  try any_goals (refine W_move (d := 29) (sq_stepper hC) rfl rfl rfl ?_)
  try any_goals (refine W_assign (d := 4) (sq_stepper hC) rfl rfl rfl ?_)
  try any_goals ((refine Sq_nil ?_; try refine G_then ?_))
  try any_goals (refine H_ret ?_)
  repeat (any_goals (first | refine G_ret_then ?_ | refine G_ret_block ?_))
  try any_goals (refine Wt.out 5 ?_)
  try any_goals (refine H_skip ?_)
  repeat (any_goals (first | refine G_exit_then ?_ | refine G_exit_here ?_ | refine G_exit_far rfl ?_ | refine G_normal_block ?_))
  try any_goals (refine G_then ?_)
  try any_goals (refine H_reg ?_)
  try any_goals (refine W_ar (d := 30) (sq_stepper hC) rfl rfl rfl rfl rfl (by first | omega | (dsimp only; omega)) ?_)
  try any_goals (refine W_move (d := 11) (sq_stepper hC) rfl rfl rfl ?_)
  try any_goals (refine Sq_nil ?_)
  try any_goals (refine G_again (i + 1) ⟨by omega, ?_⟩ (by omega) (by repeat (first | exact trivial | refine ⟨⟨_, rfl, fun _ _ _ h => h⟩, ?_⟩ | refine ⟨⟨_, rfl, fun v w _ h => (show v = _ from h).trans (congrArg (Value.int .i64) (by first | omega | (dsimp only; omega)))⟩, ?_⟩)) (fun _ h => h))
  try any_goals (refine Wt.out 2 ?_)
  repeat (any_goals (first | refine G_exit_then ?_ | refine G_exit_here ?_ | refine G_exit_far rfl ?_ | refine G_normal_block ?_))
  try any_goals (refine G_then ?_)
  try any_goals (refine H_seq ?_)
  try any_goals ((refine H_seq ?_; try refine H_reg ?_))
  try any_goals (refine W_move (d := 31) (sq_stepper hC) rfl rfl rfl ?_)
  try any_goals (refine W_len (d := 32) (sq_stepper hC) (by kernel_rfl) rfl rfl rfl ?_)
  try any_goals (refine W_move (d := 33) (sq_stepper hC) rfl rfl rfl ?_)
  try any_goals (refine W_len (d := 34) (sq_stepper hC) (by kernel_rfl) rfl rfl rfl ?_)
  try any_goals (refine W_cmp (d := 35) (sq_stepper hC) rfl rfl rfl rfl rfl ?_)
  try any_goals ((refine Sq_nil ?_; try refine G_then ?_))
  try any_goals ((refine H_cond _ rfl (fun hq => ?_) (fun hq => Wt.un 7 ?_) <;> (try simp only [hqs, reduceCtorEq] at hq)))
  try any_goals ((refine H_seq ?_; try refine H_reg ?_))
  try any_goals (refine W_assign (d := 4) (sq_stepper hC) rfl rfl rfl ?_)
  try any_goals ((refine Sq_nil ?_; try refine G_then ?_))
  try any_goals (refine H_ret ?_)
  repeat (any_goals (first | refine G_ret_then ?_ | refine G_ret_block ?_))
  try any_goals (refine Wt.out 7 ?_)
  try any_goals (refine H_skip ?_)
  try any_goals (refine G_then ?_)
  try any_goals ((refine H_seq ?_; try refine H_reg ?_))
  try any_goals (refine W_assign (d := 4) (sq_stepper hC) rfl rfl rfl ?_)
  try any_goals ((refine Sq_nil ?_; try refine G_then ?_))
  try any_goals (refine H_ret ?_)
  repeat (any_goals (first | refine G_ret_then ?_ | refine G_ret_block ?_))
  all_goals first
    | (intro j hj
       by_cases h1 : j < i
       · exact hall j h1
       · have e : j = i := by omega
         rw [e]
         exact cmpN_0 (by omega))
    | exact R1v rfl (fun _ h => h) rfl (congrArg (Value.int .i64) (cmpL_ix (i := i) (by omega) (by omega) hall (by omega)).symm)
    | exact R1v rfl (fun _ h => h) rfl (congrArg (Value.int .i64) (by rw [cmpL_end (i := i) (by omega) (by omega) hall (by omega), if_neg (by omega), if_pos (by omega)]))
    | exact R1v rfl (fun _ h => h) rfl (congrArg (Value.int .i64) (by rw [cmpL_end (i := i) (by omega) (by omega) hall (by omega), if_pos (by omega)]))
    | exact R1v rfl (fun _ h => h) rfl (congrArg (Value.int .i64) (by rw [cmpL_end (i := i) (by omega) (by omega) hall (by omega), if_neg (by omega), if_neg (by omega)]))
    | trace_state
end Go.Proofs.YtanlaggnhocjhaaGreat
