/- Delays of a choice of cancelled trips, and what it costs: both ways. -/
import Derived.Test.YtanlaggnhocjhaaGreatKept
import Derived.Test.YtanlaggnhocjhaaGreatSec
import Derived.Test.YtanlaggnhocjhaaGreatKeptW
namespace Go.Proofs.YtanlaggnhocjhaaGreat
set_option linter.unusedSimpArgs false
set_option linter.unusedVariables false
open Go.RowKit Go.ChangeShapes Go.WideShapes Go.ChangeAt Go.Deep
theorem tab_mono {t : Tab} (hv : tabB t = true) {i : Nat} : ∀ {d : Nat}, ((i + d + 1 : Nat) : Int) < t.T.length → (ix t.T i).I < (ix t.T ((i + d + 1 : Nat) : Int)).I
  | 0, h => by
    have := (tabB_at hv (i := ((i + 0 + 1 : Nat) : Int)) (by omega) h).2.2.2.2
    rw [show ((i + 0 + 1 : Nat) : Int) - 1 = (i : Int) by omega] at this
    rcases this with h1 | h1
    · omega
    · exact h1
  | d + 1, h => by
    have ih := tab_mono hv (i := i) (d := d) (by omega)
    have := (tabB_at hv (i := ((i + (d + 1) + 1 : Nat) : Int)) (by omega) h).2.2.2.2
    rw [show ((i + (d + 1) + 1 : Nat) : Int) - 1 = ((i + d + 1 : Nat) : Int) by omega] at this
    rcases this with h1 | h1
    · omega
    · exact Int.lt_trans ih h1
theorem tab_inj {t : Tab} (hv : tabB t = true) {i j : Nat} (hi : (i : Int) < t.T.length) (hj : (j : Int) < t.T.length) (h : (ix t.T i).I = (ix t.T j).I) : i = j := by
  rcases Nat.lt_trichotomy i j with hlt | he | hlt
  · have := tab_mono hv (i := i) (d := j - i - 1) (by omega)
    rw [show i + (j - i - 1) + 1 = j by omega] at this
    omega
  · exact he
  · have := tab_mono hv (i := j) (d := i - j - 1) (by omega)
    rw [show j + (i - j - 1) + 1 = i by omega] at this
    omega
/-- The list with -1 at those that are asked for. -/
def offL (n : Nat) (o : List Int) (p : Nat → Bool) : List Int := (List.range n).map fun j : Nat => if p j then -1 else ix o j
theorem offL_len {n : Nat} {o : List Int} {p : Nat → Bool} : (offL n o p).length = n := by simp [offL]
theorem offL_at {n : Nat} {o : List Int} {p : Nat → Bool} {j : Nat} (hj : j < n) : ix (offL n o p) j = if p j then -1 else ix o j := by simp [offL, ix, hj]
theorem offL_none {n : Nat} {o : List Int} {p : Nat → Bool} (hl : o.length = n) (h : ∀ j, j < n → p j = false) : offL n o p = o := by
  refine List.ext_getElem (by rw [offL_len, hl]) fun i h1 h2 => ?_
  rw [offL_len] at h1
  simp [offL, h i h1, ix, h2]
theorem offL_congr {n : Nat} {o : List Int} {p q : Nat → Bool} (h : ∀ j, j < n → p j = q j) : offL n o p = offL n o q := by
  refine List.ext_getElem (by rw [offL_len, offL_len]) fun i h1 h2 => ?_
  rw [offL_len] at h1
  simp [offL, h i h1]
theorem offL_set {n : Nat} {o : List Int} {p q : Nat → Bool} {a : Nat} (ha : a < n) (h : ∀ j, j < n → q j = (p j || decide (j = a))) : (offL n o p).set a (-1) = offL n o q := by
  refine List.ext_getElem (by rw [List.length_set, offL_len, offL_len]) fun i h1 h2 => ?_
  rw [offL_len] at h2
  rw [List.getElem_set]
  by_cases e : a = i
  · subst e
    simp [offL, h a ha]
  · simp [offL, h i h2, e, show ¬ i = a from fun h => e h.symm]
def chQ (t : Tab) (o c : List Int) (k : Nat) : List Int := offL t.T.length o fun j => decide ((ix t.T j).I ∈ c.take k)
def chR (t : Tab) (o c : List Int) : List Int := offL t.T.length o fun j => decide ((ix t.T j).I ∈ c)
theorem chQ_len {t : Tab} {o c : List Int} {k : Nat} : (chQ t o c k).length = t.T.length := offL_len
theorem chR_len {t : Tab} {o c : List Int} : (chR t o c).length = t.T.length := offL_len
theorem chQ_0 {t : Tab} {o c : List Int} (h : o.length = t.T.length) : chQ t o c 0 = o := offL_none h fun j _ => by simp
theorem chQ_end {t : Tab} {o c : List Int} {k : Nat} (hk : c.length ≤ k) : chQ t o c k = chR t o c := offL_congr fun j hj => by rw [List.take_of_length_le hk]
theorem chQ_step {t : Tab} (hv : tabB t = true) {o c : List Int} {k : Nat} (hk : (k : Int) < c.length) (h : 0 ≤ fndT t (ix c k)) : (chQ t o c k).set (fndT t (ix c k)).toNat (-1) = chQ t o c (k + 1) := by
  have hb := fndT_bd (t := t) (id := ix c k)
  have hval := fndT_val h
  refine offL_set (by omega) fun j hj => ?_
  have hk' : k < c.length := by omega
  have e : ix c (k : Int) = c[k] := by simp [ix, hk']
  rw [List.take_succ_eq_append_getElem hk', ← e]
  have hiff : ((ix t.T j).I = ix c k) ↔ j = (fndT t (ix c k)).toNat := by
    constructor
    · intro h1
      refine tab_inj hv (by omega) (by omega) ?_
      rw [show (((fndT t (ix c k)).toNat : Nat) : Int) = fndT t (ix c k) by omega, hval, h1]
    · intro h1
      rw [show (j : Int) = fndT t (ix c k) by omega, hval]
  simp only [List.mem_append, List.mem_singleton, hiff, Bool.decide_or]
theorem canB_at {t : Tab} {c : List Int} (h : canB t c = true) {k : Nat} (hk : (k : Int) < c.length) : 0 ≤ fndT t (ix c k) := by
  have := allB_at h (i := (k : Int)) (by omega) (by omega)
  rw [canAt_t] at this
  exact this.1
theorem chR_bd {t : Tab} {o c : List Int} {m : Int} (ho : DB t o m) (hm : 0 ≤ m) {j : Nat} (hj : (j : Int) < t.T.length) : -1 ≤ ix (chR t o c) j ∧ ix (chR t o c) j ≤ 2200 * m := by
  rw [chR, offL_at (by omega)]
  have := ho.2 j (by omega) hj
  split <;> omega
/-! What a choice costs. -/
def coK (t : Tab) (r : List Int) (p : Int) (i : Nat) : Int := (if ix r i < 0 then p else ix r i) * ((trLin t i).S.length : Int)
def coS (t : Tab) (r : List Int) (p : Int) : Nat → Int
  | 0 => 0
  | i + 1 => coS t r p i + coK t r p i
theorem coK_bd {t : Tab} {o c : List Int} {p : Int} (hv : tabB t = true) (ho : DB t o 12) (hp : 0 ≤ p ∧ p ≤ 1000) {i : Nat} (hi : (i : Int) < t.T.length) : 0 ≤ coK t (chR t o c) p i ∧ coK t (chR t o c) p i ≤ 158400 := by
  have h1 := chR_bd (c := c) ho (by omega) hi
  have h2 := (tabB_lin hv (i := (i : Int)) (by omega) hi).s
  unfold coK
  have h3 : 0 ≤ (if ix (chR t o c) i < 0 then p else ix (chR t o c) i) ∧ (if ix (chR t o c) i < 0 then p else ix (chR t o c) i) ≤ 26400 := by split <;> omega
  have h4 := Int.mul_nonneg h3.1 (b := ((trLin t i).S.length : Int)) (by omega)
  have h5 := Int.mul_le_mul h3.2 h2.2 (by omega) (by omega)
  omega
theorem coS_bd {t : Tab} {o c : List Int} {p : Int} (hv : tabB t = true) (ho : DB t o 12) (hp : 0 ≤ p ∧ p ≤ 1000) : ∀ {i : Nat}, (i : Int) ≤ t.T.length → 0 ≤ coS t (chR t o c) p i ∧ coS t (chR t o c) p i ≤ 158400 * i
  | 0, _ => by simp [coS]
  | i + 1, hi => by
    have h1 := coS_bd (c := c) hv ho hp (i := i) (by omega)
    have h2 := coK_bd (c := c) hv ho hp (i := i) (by omega)
    rw [coS]
    omega
/-! Riders times minutes. -/
end Go.Proofs.YtanlaggnhocjhaaGreat
namespace Go.Proofs.YtanlaggnhocjhaaGreat
set_option linter.unusedSimpArgs false
set_option linter.unusedVariables false
open Go.RowKit Go.ChangeShapes Go.WideShapes Go.ChangeAt Go.Deep
theorem ct_keptBlocks {e1 e2 e3 : Option TypeId} (B : List (List Int)) (c : List Int) (hl : (B.length : Int) ≤ 1048576) (hr : ∀ i : Nat, (i : Int) < B.length → ((ix B i).length : Int) ≤ 1048576) : CT Tryz.prog 67 [.inr (uS e1 (pS e2 pI) B), .inr (uS e3 pI c)] (.inr (uS (some 37) (pS (some 3) pI) (keptA B c))) := by
  refine CTX_ct (fun w => cx_keptBlocks B c hl hr w) (fun w y v w' ⟨hS, hvl⟩ hR => ⟨hS.ext, ?_⟩)
  obtain rfl : v = _ := hR
  exact isS_rows (by rw [keptA_len, hvl]) (hS.isS (m := 0) rfl) (fun i hi => hS.isS (m := i + 1) (rowsZ_get (by rw [keptA_len, hvl]) hi))
theorem ct_isPossible {e1 e2 e3 : Option TypeId} (t : Tab) (f : Flt) (B : List (List Int)) (c : List Int) (hk : BlV t f B) : CT Tryz.prog 38 [.inr (uA bTab t), .inr (uA bFlt f), .inr (uS e1 (pS e2 pI) B), .inr (uS e3 pI c)] (.inl (.bool (posB t f B c))) := by
  have hln := hk.len
  have hal := keptA_len (B := B) (c := c)
  refine CT_of Tryz.func38 rfl rfl rfl (fun w => ?_)
  have hC := upC_ext w
  try any_goals ((refine H_seq ?_; try refine H_reg ?_))
  try any_goals (refine W_boxA (d := 4) (sq_stepper hC) rfl rfl rfl ?_)
  try any_goals (refine W_boxA (d := 5) (sq_stepper hC) rfl rfl rfl ?_)
  try any_goals (refine W_assign (d := 8) (sq_stepper hC) rfl rfl rfl ?_)
  try any_goals ((refine Sq_nil ?_; try refine G_then ?_))
  try any_goals (refine H_seq ?_)
  try any_goals ((refine H_seq ?_; try refine H_reg ?_))
  try any_goals (refine W_move (d := 12) (sq_stepper hC) rfl rfl rfl ?_)
  try any_goals (refine W_move (d := 13) (sq_stepper hC) rfl rfl rfl ?_)
  try any_goals (refine W_ct (d := 14) (sq_stepper hC) (ct_keptBlocks _ _ (by omega) (fun i hi => by have := hk.row i hi; omega)) rfl rfl rfl (by kernel_rfl) ?_)
  try any_goals (refine W_len (d := 15) (sq_stepper hC) (by kernel_rfl) rfl rfl rfl ?_)
  try any_goals (refine W_move (d := 16) (sq_stepper hC) rfl rfl rfl ?_)
  try any_goals ((refine Sq_nil ?_; try refine G_then ?_))
  try any_goals (refine H_block ?_)
  try any_goals ((refine H_loop (fun i : Nat => i ≤ B.length ∧ ∀ j, j < i → posL t f (keptL (ix B j) c) = true) (fun i => [(4, .inr (uP bTab t)), (5, .inr (uP bFlt f)), (14, .inr (uS (some 37) (pS (some 3) pI) (keptA B c))), (15, .inl (.int .i64 B.length)), (16, .inl (.int .i64 i))]) (fun _ => Ext w) (fun i => B.length - i) 0 ⟨Nat.zero_le _, fun j hj => absurd hj (Nat.not_lt_zero _)⟩ (fun a w h => h.sub (by repeat (first | exact trivial | refine ⟨⟨_, rfl, fun _ _ _ h => h⟩, ?_⟩ | refine ⟨⟨_, rfl, fun v w _ h => (show v = _ from h).trans (congrArg (Value.int .i64) (by first | omega | (dsimp only; omega)))⟩, ?_⟩)) fun _ h => h) (fun i hi => ?_); obtain ⟨hi, hall⟩ := hi))
  try any_goals ((refine H_seq ?_; try refine H_reg ?_))
  try any_goals (refine W_cmp (d := 17) (sq_stepper hC) rfl rfl rfl rfl rfl ?_)
  try any_goals ((refine Sq_nil ?_; try refine G_then ?_))
  try any_goals (refine H_seq ?_)
  try any_goals ((refine H_cond _ rfl (fun hq => ?_) (fun hq => Wt.un 0 ?_) <;> (try simp only [hqs, reduceCtorEq] at hq)))
  try any_goals (refine H_skip ?_)
  try any_goals (refine G_hold 1 ?_)
  try any_goals (refine Wt.out 0 ?_)
  try any_goals (refine H_exit ?_)
  repeat (any_goals (first | refine G_exit_then ?_ | refine G_exit_here ?_ | refine G_exit_far rfl ?_))
  try any_goals (refine G_hold 2 ?_)
  try any_goals (refine Wt.out 1 ?_)
  try any_goals (refine G_then ?_)
  try any_goals (refine H_seq ?_)
  try any_goals (refine H_block ?_)
  try any_goals ((refine H_seq ?_; try refine H_reg ?_))
  try any_goals ((refine W_index (d := 18) (sq_stepper hC) (by kernel_rfl) rfl rfl rfl rfl ⟨by omega, by omega⟩ ?_; rw [keptA_at (by omega)]))
  try any_goals (refine W_loadS (d := 19) (sq_stepper hC) (by kernel_rfl) rfl rfl rfl ?_)
  try any_goals (refine W_assign (d := 10) (sq_stepper hC) rfl rfl rfl ?_)
  try any_goals ((refine Sq_nil ?_; try refine G_then ?_))
  try any_goals ((refine H_seq ?_; try refine H_reg ?_))
  try any_goals (refine W_assign (d := 11) (sq_stepper hC) rfl rfl rfl ?_)
  try any_goals ((refine Sq_nil ?_; try refine G_then ?_))
  try any_goals (refine H_block ?_)
  try any_goals ((refine H_loop (fun k : Nat => (1 ≤ k ∧ (k ≤ (keptL (ix B i) c).length ∨ k = 1)) ∧ ∀ j, j < k → posK t f (keptL (ix B i) c) j = true) (fun k => [(4, .inr (uP bTab t)), (5, .inr (uP bFlt f)), (14, .inr (uS (some 37) (pS (some 3) pI) (keptA B c))), (15, .inl (.int .i64 B.length)), (16, .inl (.int .i64 i)), (10, .inr (uS (some 3) pI (keptL (ix B i) c))), (11, .inl (.int .i64 k))]) (fun _ => Ext w) (fun k => (keptL (ix B i) c).length + 1 - k) 1 ⟨by omega, fun j hj => by obtain rfl : j = 0 := (by omega); rfl⟩ (fun a w h => h.sub (by repeat (first | exact trivial | refine ⟨⟨_, rfl, fun _ _ _ h => h⟩, ?_⟩ | refine ⟨⟨_, rfl, fun v w _ h => (show v = _ from h).trans (congrArg (Value.int .i64) (by first | omega | (dsimp only; omega)))⟩, ?_⟩)) fun _ h => h) (fun k hk1 => ?_); obtain ⟨hk1, hall1⟩ := hk1; have hkl := hk.keptLen (c := c) (i := i) (by omega)))
  try any_goals (refine H_seq ?_)
  try any_goals ((refine H_seq ?_; try refine H_reg ?_))
  try any_goals (refine W_move (d := 20) (sq_stepper hC) rfl rfl rfl ?_)
  try any_goals (refine W_move (d := 21) (sq_stepper hC) rfl rfl rfl ?_)
  try any_goals (refine W_len (d := 22) (sq_stepper hC) (by kernel_rfl) rfl rfl rfl ?_)
  try any_goals (refine W_cmp (d := 23) (sq_stepper hC) rfl rfl rfl rfl rfl ?_)
  try any_goals ((refine Sq_nil ?_; try refine G_then ?_))
  try any_goals ((refine H_cond _ rfl (fun hq => ?_) (fun hq => Wt.un 3 ?_) <;> (try simp only [hqs, reduceCtorEq] at hq)))
  try any_goals (refine H_skip ?_)
  try any_goals (refine G_hold 4 ?_)
  try any_goals (refine Wt.out 3 ?_)
  try any_goals (refine H_exit ?_)
  repeat (any_goals (first | refine G_exit_then ?_ | refine G_exit_here ?_ | refine G_exit_far rfl ?_))
  try any_goals (refine Wt.out 4 ?_)
  try any_goals (refine G_then ?_)
  try any_goals (refine H_seq ?_)
  try any_goals (refine H_block ?_)
  try any_goals (refine H_seq ?_)
  try any_goals (refine H_draw' (by kernel_rfl) hC ?_)
  try any_goals (refine W_loadA (d := 26) wk_stepper (by kernel_rfl) rfl rfl rfl ?_)
  try any_goals (refine W_loadA (d := 27) wk_stepper (by kernel_rfl) rfl rfl rfl ?_)
  try any_goals (refine W_loadA (d := 28) wk_stepper (by kernel_rfl) rfl rfl rfl ?_)
  try any_goals (refine W_move (d := 29) wk_stepper rfl rfl rfl ?_)
  try any_goals (refine W_move (d := 30) wk_stepper rfl rfl rfl ?_)
  try any_goals (refine W_ar (d := 31) wk_stepper rfl rfl rfl rfl rfl (by first | omega | (dsimp only; omega)) ?_)
  try any_goals (refine W_index (d := 32) wk_stepper (by kernel_rfl) rfl rfl rfl rfl (by first | omega | (dsimp only; omega)) ?_)
  try any_goals (refine W_loadI (d := 33) wk_stepper (by kernel_rfl) rfl rfl rfl ?_)
  try any_goals (refine W_ct (d := 34) wk_stepper (ct_tripWith _ (ix (keptL (ix B i) c) ((k : Int) - 1)) (hk.keptPr (by omega) (by omega) (by omega))) rfl rfl rfl (by kernel_rfl) ?_)
  try any_goals (refine W_loadA (d := 35) wk_stepper (by kernel_rfl) rfl rfl rfl ?_)
  try any_goals (refine W_move (d := 36) wk_stepper rfl rfl rfl ?_)
  try any_goals (refine W_move (d := 37) wk_stepper rfl rfl rfl ?_)
  try any_goals (refine W_index (d := 38) wk_stepper (by kernel_rfl) rfl rfl rfl rfl (by first | omega | (dsimp only; omega)) ?_)
  try any_goals (refine W_loadI (d := 39) wk_stepper (by kernel_rfl) rfl rfl rfl ?_)
  try any_goals (refine W_ct (d := 40) wk_stepper (ct_tripWith _ (ix (keptL (ix B i) c) k) (hk.kept (by omega) k (by omega))) rfl rfl rfl (by kernel_rfl) ?_)
  try any_goals (refine W_ct (d := 41) wk_stepper (ct_canFollow _ _ (ix t.T (fndT t (ix (keptL (ix B i) c) ((k : Int) - 1)))) (ix t.T (fndT t (ix (keptL (ix B i) c) k))) hk.hv hk.hf (tr_ok hk.hv ⟨hk.keptPr (by omega) (by omega) (by omega), fndT_bd.2⟩).1 (tr_ok hk.hv ⟨hk.kept (by omega) k (by omega), fndT_bd.2⟩).1 (tr_ok hk.hv ⟨hk.keptPr (by omega) (by omega) (by omega), fndT_bd.2⟩).2.1 (tr_ok hk.hv ⟨hk.keptPr (by omega) (by omega) (by omega), fndT_bd.2⟩).2.2) rfl rfl rfl (by kernel_rfl) ?_)
  try any_goals (refine W_not (d := 42) wk_stepper rfl rfl rfl ?_)
  try any_goals (refine Wk_end (by kernel_rfl) (by kernel_rfl) ?_)
  try any_goals (refine G_then ?_)
  try any_goals ((refine H_cond _ rfl (fun hq => ?_) (fun hq => Wt.un 6 ?_) <;> (try simp only [hqs, reduceCtorEq] at hq)))
  try any_goals (first | (refine H_seq ?_; try refine H_reg ?_) | refine H_reg ?_)
  try any_goals (refine W_assign (d := 8) (sq_stepper hC) rfl rfl rfl ?_)
  try any_goals ((refine Sq_nil ?_; try refine G_then ?_))
  try any_goals (refine H_ret ?_)
  repeat (any_goals (first | refine G_ret_then ?_ | refine G_ret_block ?_))
  try any_goals (refine Wt.out 6 ?_)
  try any_goals (refine H_skip ?_)
  repeat (any_goals (first | refine G_exit_then ?_ | refine G_exit_here ?_ | refine G_exit_far rfl ?_ | refine G_normal_block ?_))
  try any_goals (refine G_then ?_)
  try any_goals (refine H_reg ?_)
  try any_goals (refine W_move (d := 24) (sq_stepper hC) rfl rfl rfl ?_)
  try any_goals (refine W_ar (d := 25) (sq_stepper hC) rfl rfl rfl rfl rfl (by first | omega | (dsimp only; omega)) ?_)
  try any_goals (refine W_assign (d := 11) (sq_stepper hC) rfl rfl rfl ?_)
  try any_goals (refine Sq_nil ?_)
  try any_goals (refine G_again (k + 1) ⟨by omega, ?_⟩ (by omega) (by repeat (first | exact trivial | refine ⟨⟨_, rfl, fun _ _ _ h => h⟩, ?_⟩ | refine ⟨⟨_, rfl, fun v w _ h => (show v = _ from h).trans (congrArg (Value.int .i64) (by first | omega | (dsimp only; omega)))⟩, ?_⟩)) (fun _ h => h))
  repeat (any_goals (first | refine G_exit_then ?_ | refine G_exit_here ?_ | refine G_exit_far rfl ?_ | refine G_normal_block ?_))
  repeat (any_goals (first | refine G_exit_then ?_ | refine G_exit_here ?_ | refine G_exit_far rfl ?_ | refine G_normal_block ?_))
  try any_goals (refine W_ar (d := 43) (sq_stepper hC) rfl rfl rfl rfl rfl (by first | omega | (dsimp only; omega)) ?_)
  try any_goals (refine W_move (d := 16) (sq_stepper hC) rfl rfl rfl ?_)
  try any_goals (refine Sq_nil ?_)
  try any_goals (refine G_again (i + 1) ⟨by omega, ?_⟩ (by omega) (by repeat (first | exact trivial | refine ⟨⟨_, rfl, fun _ _ _ h => h⟩, ?_⟩ | refine ⟨⟨_, rfl, fun v w _ h => (show v = _ from h).trans (congrArg (Value.int .i64) (by first | omega | (dsimp only; omega)))⟩, ?_⟩)) (fun _ h => h))
  try any_goals (refine Wt.out 2 ?_)
  repeat (any_goals (first | refine G_exit_then ?_ | refine G_exit_here ?_ | refine G_exit_far rfl ?_ | refine G_normal_block ?_))
  try any_goals (refine G_then ?_)
  try any_goals ((refine H_seq ?_; try refine H_reg ?_))
  try any_goals (refine W_assign (d := 8) (sq_stepper hC) rfl rfl rfl ?_)
  try any_goals ((refine Sq_nil ?_; try refine G_then ?_))
  try any_goals (refine H_ret ?_)
  repeat (any_goals (first | refine G_ret_then ?_ | refine G_ret_block ?_))
  all_goals first
    | exact alln_step hall1 (by unfold posK; rw [hq]; simp)
    | exact alln_step (p := fun j => posL t f (keptL (ix B j) c)) hall (allN_y (by omega) hall1)
    | exact R1v rfl (fun _ h => h) rfl (congrArg Value.bool (allN_f (p := fun j => posL t f (keptL (ix B j) c)) (i := i) (by omega) (allN_f (i := k) (by omega) (by unfold posK; rw [hq, decide_eq_false (by omega)]; rfl))).symm)
    | exact R1v rfl (fun _ h => h) rfl (congrArg Value.bool (allN_y (p := fun j => posL t f (keptL (ix B j) c)) (by omega) hall).symm)
    | trace_state
end Go.Proofs.YtanlaggnhocjhaaGreat
namespace Go.Proofs.YtanlaggnhocjhaaGreat
set_option linter.unusedSimpArgs false
set_option linter.unusedVariables false
open Go.RowKit Go.ChangeShapes Go.WideShapes Go.ChangeAt Go.Deep
abbrev pSI : Phi (List Int) := pS (some 3) pI
end Go.Proofs.YtanlaggnhocjhaaGreat
namespace Go.Proofs.YtanlaggnhocjhaaGreat
set_option linter.unusedSimpArgs false
set_option linter.unusedVariables false
open Go.RowKit Go.ChangeShapes Go.WideShapes Go.ChangeAt Go.Deep
theorem BkK.kept {t : Tab} {f : Flt} {B : List (List Int)} {xs : List Dly} (h : BlV t f B) (hm : MinOk xs) (c : List Int) : BkK t f (keptA B c) xs :=
  ⟨h.hv, h.hf, keptA_ids h.ids, by have h1 := h.flat; have h2 := keptA_flat (B := B) (c := c); omega, hm⟩
def cdL (t : Tab) (f : Flt) (B : List (List Int)) (xs : List Dly) (c : List Int) : List Int := chR t (delR t f (keptA B c) xs) c
theorem cdL_len {t : Tab} {f : Flt} {B : List (List Int)} {xs : List Dly} {c : List Int} : (cdL t f B xs c).length = t.T.length := chR_len
set_option maxHeartbeats 1000000 in
theorem cg_choiceDelays {e1 e2 e3 e4 : Option TypeId} (t : Tab) (f : Flt) (B : List (List Int)) (xs : List Dly) (c : List Int) (hk : BlV t f B) (hm : MinOk xs) (hc0 : canB t c = true) : CTG Tryz.prog 70 [.inr (uA bTab t), .inr (uA bFlt f), .inr (uS e1 (pS e2 pI) B), .inr (uS e3 pDly xs), .inr (uS e4 pI c)] (fun s => .inr (uO s oIntS (cdL t f B xs c))) := by
  have hln := hk.len
  have h12 := (tabB_k hk.hv).2.1
  have hcl := fun k => chQ_len (t := t) (o := delR t f (keptA B c) xs) (c := c) (k := k)
  have hol := (BkK.kept hk hm c).all.1
  refine CTG_of Tryz.func70 rfl rfl rfl (fun w s hs => ?_)
  have hC := upC_ext w
  try any_goals ((refine H_seq ?_; try refine H_reg ?_))
  try any_goals (refine W_boxA (d := 5) (sq_stepper hC) rfl rfl rfl ?_)
  try any_goals (refine W_boxA (d := 6) (sq_stepper hC) rfl rfl rfl ?_)
  try any_goals (refine W_assign (d := 10) (sq_stepper hC) rfl rfl rfl ?_)
  try any_goals ((refine Sq_nil ?_; try refine G_then ?_))
  try any_goals (refine H_seq ?_)
  try any_goals (have hE : Ext _ _ := Ext.refl w)
  try any_goals (refine H_open 5 rfl (fun q u5 hw hr5 => ?_); have hE := hE.trans hw)
  try any_goals (refine H_open 6 rfl (fun q u6 hw hr6 => ?_); have hE := hE.trans hw; have hr5 := UR.lift hw hr5)
  try any_goals (refine H_open 2 rfl (fun q u2 hw hr2 => ?_); have hE := hE.trans hw; have hr5 := UR.lift hw hr5; have hr6 := UR.lift hw hr6)
  try any_goals (refine H_open 3 rfl (fun q u3 hw hr3 => ?_); have hE := hE.trans hw; have hr5 := UR.lift hw hr5; have hr6 := UR.lift hw hr6; have hr2 := UR.lift hw hr2)
  try any_goals (refine H_open 4 rfl (fun q u4 hw hr4 => ?_); have hE := hE.trans hw; have hr5 := UR.lift hw hr5; have hr6 := UR.lift hw hr6; have hr2 := UR.lift hw hr2; have hr3 := UR.lift hw hr3)
  try any_goals (refine H_weakenC (C' := Sep q []) (fun w' h => sep_start h) ?_; have hC : UpC (Sep q []) := upC_sep)
  try any_goals (have hcle := isS_le hr4)
  try any_goals (refine H_draw' (by kernel_rfl) upC_sep ?_)
  try any_goals (refine W_loadUP (d := 14) wk_stepper (fun w' h => UR.lift (Sep.ext h) hr5) (by kernel_rfl) rfl rfl rfl ?_)
  try any_goals (refine W_loadUP (d := 15) wk_stepper (fun w' h => UR.lift (Sep.ext h) hr6) (by kernel_rfl) rfl rfl rfl ?_)
  try any_goals (refine W_moveR (d := 16) wk_stepper (U := uS e1 (pS e2 pI) B) (fun w' h => UR.lift (Sep.ext h) hr2) rfl rfl rfl ?_)
  try any_goals (refine W_moveR (d := 17) wk_stepper (U := uS e4 pI c) (fun w' h => UR.lift (Sep.ext h) hr4) rfl rfl rfl ?_)
  try any_goals (refine W_ct (d := 18) wk_stepper (ct_keptBlocks _ _ (by omega) (fun i hi => by have := hk.row i hi; omega)) rfl rfl rfl (by kernel_rfl) ?_)
  try any_goals (refine W_moveR (d := 19) wk_stepper (U := uS e3 pDly xs) (fun w' h => UR.lift (Sep.ext h) hr3) rfl rfl rfl ?_)
  try any_goals ((refine W_ctG (d := 20) wk_stepper (cg_delaysOf t f (keptA B c) xs (BkK.kept hk hm c)) (fun w' h => (Sep.ext h).size) rfl rfl rfl (by kernel_rfl) ?_))
  try any_goals (refine Wk_assign (by kernel_rfl) (by kernel_rfl) ?_)
  try any_goals (refine W_assign (d := 11) (sq_stepper upC_sep) rfl rfl rfl ?_)
  try any_goals ((refine Sq_nil ?_; try refine G_then ?_))
  try any_goals (refine H_seq ?_)
  try any_goals (refine H_seq ?_)
  try any_goals (refine H_openO 11 rfl (fun w' h => Sep.ext h) (fun v11 => ?_))
  try any_goals (refine H_reg ?_)
  try any_goals (refine W_move (d := 21) (sq_stepper upC_sep) rfl rfl rfl ?_)
  try any_goals (refine W_lenR (d := 22) (sq_stepper upC_sep) (xs := c) (fun w' h => UR.lift (Sep.ext h) hr4) (by kernel_rfl) rfl rfl rfl ?_)
  try any_goals (refine W_move (d := 23) (sq_stepper upC_sep) rfl rfl rfl ?_)
  try any_goals ((refine Sq_nil ?_; try refine G_then ?_))
  try any_goals (refine H_block ?_)
  try any_goals ((refine H_loop (σ := Nat) (fun k => k ≤ c.length) (fun k => [(5, .inl u5), (11, .inl v11), (21, .inl u4), (22, .inl (.int .i64 c.length)), (23, .inl (.int .i64 k))]) (fun k => Sep q [.sl Int 3 pI (chQ t (delR t f (keptA B c) xs) c k) v11]) (fun k => c.length - k) 0 (Nat.zero_le _) (fun a w' h => h.sub (by repeat (first | exact trivial | refine ⟨⟨_, rfl, fun _ _ _ h => h⟩, ?_⟩ | refine ⟨⟨_, rfl, fun v w _ h => (show v = _ from h).trans (congrArg (Value.int .i64) (by first | omega | (dsimp only; omega)))⟩, ?_⟩)) (fun w' h => by rw [chQ_0 hol]; exact h)) (fun k hk1 => ?_); have hclk := hcl k; have hfb := fndT_bd (t := t) (id := ix c k)))
  try any_goals ((refine H_seq ?_; try refine H_reg ?_))
  try any_goals (refine W_cmp (d := 24) (sq_stepper upC_sep) rfl rfl rfl rfl rfl ?_)
  try any_goals ((refine Sq_nil ?_; try refine G_then ?_))
  try any_goals (refine H_seq ?_)
  try any_goals ((refine H_cond _ rfl (fun hq => ?_) (fun hq => ?_) <;> (try simp only [hqs, reduceCtorEq] at hq)))
  try any_goals (first | ((have hca := canB_at hc0 (k := k) (by omega))) | skip)
  try any_goals (refine H_skip ?_)
  try any_goals (refine H_exit ?_)
  repeat (any_goals (first | refine G_exit_then ?_ | refine G_exit_here ?_ | refine G_exit_far rfl ?_))
  try any_goals (refine G_then ?_)
  try any_goals (refine H_seq ?_)
  try any_goals (refine H_block ?_)
  try any_goals (first | (refine H_seq ?_; try refine H_reg ?_) | refine H_reg ?_)
  try any_goals (refine W_indexR (d := 25) (sq_stepper upC_sep) (xs := c) (fun w' h => UR.lift (Sep.ext h) hr4) (by kernel_rfl) rfl rfl rfl rfl ⟨by omega, by omega⟩ ?_)
  try any_goals (refine W_loadI (d := 26) (sq_stepper upC_sep) (by kernel_rfl) rfl rfl rfl ?_)
  try any_goals (refine W_assign (d := 13) (sq_stepper upC_sep) rfl rfl rfl ?_)
  try any_goals ((refine Sq_nil ?_; try refine G_then ?_))
  try any_goals (refine H_reg ?_)
  try any_goals (refine W_move (d := 27) (sq_stepper upC_sep) rfl rfl rfl ?_)
  try any_goals (refine W_loadUP (d := 28) (sq_stepper upC_sep) (fun w' h => UR.lift (Sep.ext h) hr5) (by kernel_rfl) rfl rfl rfl ?_)
  try any_goals (refine W_move (d := 29) (sq_stepper upC_sep) rfl rfl rfl ?_)
  try any_goals (refine W_ct (d := 30) (sq_stepper upC_sep) (ct_tripIndex _ _) rfl rfl rfl (by kernel_rfl) ?_)
  try any_goals (refine W_idxS (d := 31) 0 (sq_stepper upC_sep) rfl (by kernel_rfl) rfl rfl rfl rfl (by first | omega | (simp; done) | (simp; omega)) ?_)
  try any_goals ((refine Sq_storeS 0 (n := 1) (-1) rfl ⟨trivial, trivial⟩ ⟨by omega, by omega⟩ rfl (by kernel_rfl) (Nat.le_refl _) rfl rfl (hp_1 rfl rfl (fun _ => rfl)) ?_))
  try any_goals (refine Sq_nil ?_)
  repeat (any_goals (first | refine G_exit_then ?_ | refine G_exit_here ?_ | refine G_exit_far rfl ?_ | refine G_normal_block ?_))
  try any_goals (refine G_then ?_)
  try any_goals (refine H_reg ?_)
  try any_goals (refine W_ar (d := 32) (sq_stepper upC_sep) rfl rfl rfl rfl rfl (by first | omega | (dsimp only; omega)) ?_)
  try any_goals (refine W_move (d := 23) (sq_stepper upC_sep) rfl rfl rfl ?_)
  try any_goals (refine Sq_nil ?_)
  try any_goals (refine G_again (k + 1) (by omega) (by omega) (by repeat (first | exact trivial | refine ⟨⟨_, rfl, fun _ _ _ h => h⟩, ?_⟩ | refine ⟨⟨_, rfl, fun v w _ h => (show v = _ from h).trans (congrArg (Value.int .i64) (by first | omega | (dsimp only; omega)))⟩, ?_⟩)) (fun w' h => ?_))
  repeat (any_goals (first | refine G_exit_then ?_ | refine G_exit_here ?_ | refine G_exit_far rfl ?_ | refine G_normal_block ?_))
  try any_goals (refine W_move (d := 33) (sq_stepper upC_sep) rfl rfl rfl ?_)
  try any_goals (refine W_assign (d := 10) (sq_stepper upC_sep) rfl rfl rfl ?_)
  try any_goals ((refine Sq_nil ?_; try refine G_then ?_))
  try any_goals (refine H_ret ?_)
  repeat (any_goals (first | refine G_ret_then ?_ | refine G_ret_block ?_))
  all_goals first
    | (rw [← chQ_step hk.hv (by omega) hca]; exact h)
    | (exact R1 rfl (fun _ h => hE.trans h.ext) rfl (fun v w' hc hv => by rw [chQ_end (by omega)] at hc; rw [show v = _ from hv]; exact hc.isO (m := 0) rfl (Nat.le_trans hs hE.size)))
    | trace_state
end Go.Proofs.YtanlaggnhocjhaaGreat
