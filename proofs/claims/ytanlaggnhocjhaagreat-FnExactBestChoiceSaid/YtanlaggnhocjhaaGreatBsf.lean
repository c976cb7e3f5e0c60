/- The best choice: the reference's judgement. -/
import Derived.Test.YtanlaggnhocjhaaGreatBsd
namespace Go.Proofs.YtanlaggnhocjhaaGreat
set_option linter.unusedSimpArgs false
set_option linter.unusedVariables false
open Go.RowKit Go.ChangeShapes Go.WideShapes Go.ChangeAt Go.Deep
/-! One row: what is known of it, its cost. -/
structure RwK (t : Tab) (f : Flt) (xs : List Dly) (p : Int) (b : List Int) : Prop where
  hv : tabB t = true
  hf : fltB t.N.S.length f = true
  ids : ∀ x ∈ b, 0 ≤ fndT t x
  hl : b.length ≤ 12
  hm : MinOk xs
  hp : 0 ≤ p ∧ p ≤ 1000
section
variable {t : Tab} {f : Flt} {xs : List Dly} {p : Int} {b : List Int} (h : RwK t f xs p b)
include h
theorem RwK.bk (c : List Int) : BkK t f [keptL b c] xs := ⟨h.hv, h.hf, fun i k hi hk => by
  obtain rfl : i = 0 := by simp at hi; omega
  have hk : (k : Int) < (keptL b c).length := hk
  exact h.ids _ (keptL_mem (mem_ix (xs := keptL b c) (by omega) hk)).1, by
  have := keptL_len (b := b) (c := c)
  have h2 := h.hl
  simp only [List.flatten_cons, List.flatten_nil, List.append_nil]
  omega, h.hm⟩
theorem RwK.kid (c : List Int) : ∀ k : Nat, (k : Int) < (keptL b c).length → 0 ≤ fndT t (ix (keptL b c) k) := fun k hk => h.ids _ (keptL_mem (mem_ix (xs := keptL b c) (by omega) hk)).1
theorem RwK.dl {c : List Int} {x : Int} (hx : x ∈ b) : 0 ≤ ix (delR t f [keptL b c] xs) (fndT t x) ∧ ix (delR t f [keptL b c] xs) (fndT t x) ≤ 26400 := by
  have := (h.bk c).all.2 _ (h.ids x hx) fndT_bd.2
  omega
theorem RwK.kb {c : List Int} {x : Int} (hx : x ∈ b) : 0 ≤ bcK t f xs p b c x ∧ bcK t f xs p b c x ≤ 158400 := by
  have h1 := h.dl (c := c) hx
  have h2 := (tabB_lin h.hv (i := fndT t x) (h.ids x hx) fndT_bd.2).s
  have hp := h.hp
  unfold bcK
  have h3 : 0 ≤ (if x ∈ c then p else ix (delR t f [keptL b c] xs) (fndT t x)) ∧ (if x ∈ c then p else ix (delR t f [keptL b c] xs) (fndT t x)) ≤ 26400 := by split <;> omega
  have h4 := Int.mul_nonneg h3.1 (b := ((trLin t (fndT t x)).S.length : Int)) (by omega)
  have h5 := Int.mul_le_mul h3.2 h2.2 (by omega) (by omega)
  omega
theorem RwK.sb {c : List Int} : ∀ {i : Nat}, i ≤ b.length → 0 ≤ sumF (bcK t f xs p b c) (b.take i) ∧ sumF (bcK t f xs p b c) (b.take i) ≤ 158400 * i
  | 0, _ => by simp [sumF]
  | i + 1, hi => by
    have h1 := RwK.sb (c := c) (i := i) (by omega)
    have h2 := h.kb (c := c) (x := ix b (i : Int)) (mem_ix (by omega) (by omega))
    rw [sumF_take (by omega)]
    omega
theorem RwK.cb {c : List Int} : 0 ≤ bcS t f xs p b c ∧ bcS t f xs p b c ≤ 1900800 := by
  have h1 := h.sb (c := c) (i := b.length) (Nat.le_refl _)
  have h2 := h.hl
  rw [List.take_length] at h1
  unfold bcS
  omega
theorem RwK.kBd {k : Nat} : -1 ≤ kB t f xs p b k ∧ kB t f xs p b k ≤ 1900800 := by
  unfold kB
  cases seB t f xs p b k with
  | none =>
    show -1 ≤ (-1 : Int) ∧ (-1 : Int) ≤ 1900800
    decide
  | some m =>
    have := h.cb (c := cB b m b.length)
    show -1 ≤ bcS t f xs p b (cB b m b.length) ∧ bcS t f xs p b (cB b m b.length) ≤ 1900800
    omega
theorem RwK.up {k : Nat} (ho : okB t f b k = true) (hu : kB t f xs p b k < 0 ∨ kyL (coB t f xs p b k) (cB b k b.length) (kB t f xs p b k) (lB t f xs p b k) = true) : lB t f xs p b (k + 1) = cB b k b.length ∧ kB t f xs p b (k + 1) = coB t f xs p b k := by
  have e : seB t f xs p b (k + 1) = some k := by
    unfold seB at *
    unfold sel
    rw [ho]
    simp only [if_true]
    cases e : sel (okB t f b) (coB t f xs p b) (fun m => cB b m b.length) k with
    | none => rfl
    | some r =>
      simp only
      unfold kB lB seB at hu
      rw [e] at hu
      have hr : ¬ coB t f xs p b r < 0 := by
        have := h.cb (c := cB b r b.length)
        unfold coB
        omega
      rw [hu.resolve_left hr]
      simp
  unfold lB kB
  rw [e]
  exact ⟨rfl, rfl⟩
omit h in
theorem seB_no {k : Nat} (ho : okB t f b k = false) : seB t f xs p b (k + 1) = seB t f xs p b k := by
  unfold seB
  rw [sel, ho]
  simp
omit h in
theorem rw_no {k : Nat} (ho : okB t f b k = false) : lB t f xs p b (k + 1) = lB t f xs p b k ∧ kB t f xs p b (k + 1) = kB t f xs p b k := by
  unfold lB kB
  rw [seB_no ho]
  exact ⟨rfl, rfl⟩
omit h in
theorem rw_same {k : Nat} (ho : okB t f b k = true) (hu : ¬ (kB t f xs p b k < 0 ∨ kyL (coB t f xs p b k) (cB b k b.length) (kB t f xs p b k) (lB t f xs p b k) = true)) : lB t f xs p b (k + 1) = lB t f xs p b k ∧ kB t f xs p b (k + 1) = kB t f xs p b k := by
  have e : seB t f xs p b (k + 1) = seB t f xs p b k := by
    unfold seB at *
    rw [sel, ho]
    simp only [if_true]
    unfold kB lB seB at hu
    cases e : sel (okB t f b) (coB t f xs p b) (fun m => cB b m b.length) k with
    | none =>
      rw [e] at hu
      exact absurd (.inl (show (-1 : Int) < 0 by decide)) hu
    | some r =>
      rw [e] at hu
      simp only at hu ⊢
      rw [if_neg fun h9 => hu (.inr h9)]
  unfold lB kB
  rw [e]
  exact ⟨rfl, rfl⟩
end
theorem ky_no {c d : Int} {a b : List Int} (h1 : ¬ d < 0) (h2 : d < c ∨ (¬ c < d ∧ b.length ≤ a.length ∧ ¬ (c = d ∧ a.length = b.length)) ∨ (¬ c < d ∧ b.length ≤ a.length ∧ lexL a b = false)) : ¬ (d < 0 ∨ kyL c a d b = true) := fun h => by
  rcases h with h | h
  · exact h1 h
  · rw [kyL_t] at h
    rcases h2 with h2 | ⟨h2, h3, h4⟩ | ⟨h2, h3, h4⟩
    · omega
    · rcases h with h | ⟨h5, h6 | ⟨h6, _⟩⟩
      · exact h2 h
      · omega
      · exact h4 ⟨h5, h6⟩
    · rcases h with h | ⟨h5, h6 | ⟨h6, h7⟩⟩
      · exact h2 h
      · omega
      · rw [h4] at h7
        cases h7
theorem bcK_y {t : Tab} {f : Flt} {xs : List Dly} {p : Int} {b c : List Int} {x : Int} (h : x ∈ c) : bcK t f xs p b c x = p * ((trLin t (fndT t x)).S.length : Int) := by rw [bcK, if_pos h]
theorem bcK_n {t : Tab} {f : Flt} {xs : List Dly} {p : Int} {b c : List Int} {x : Int} (h : ¬ x ∈ c) : bcK t f xs p b c x = ix (delR t f [keptL b c] xs) (fndT t x) * ((trLin t (fndT t x)).S.length : Int) := by rw [bcK, if_neg h]
theorem lB_len {t : Tab} {f : Flt} {xs : List Dly} {p : Int} {b : List Int} {k : Nat} : (lB t f xs p b k).length ≤ b.length := by
  unfold lB
  cases seB t f xs p b k with
  | none => exact Nat.zero_le _
  | some m => exact cB_len
set_option maxHeartbeats 4000000 in
theorem ct_l19Best {e1 e2 : Option TypeId} (t : Tab) (f : Flt) (b : List Int) (xs : List Dly) (p : Int) (h : RwK t f xs p b) : CT Tryz.prog 30 [.inr (uA bTab t), .inr (uA bFlt f), .inr (uS e1 pI b), .inr (uS e2 pDly xs), .inl (.int .i64 p)] (.inr (uT [.inr (uS (some 3) pI (dB t f xs p b)), .inl (.int .i64 (kB t f xs p b (2 ^ b.length)))])) := by
  have hl := h.hl
  have hp := h.hp
  have h2 := pow12 hl
  have h12 := (tabB_k h.hv).2.1
  refine CT_of Tryz.func30 rfl rfl rfl (fun w => ?_)
  have hC := upC_ext w
  try any_goals ((refine H_seq ?_; try refine H_reg ?_))
  try any_goals (refine W_boxA (d := 5) (sq_stepper hC) rfl rfl rfl ?_)
  try any_goals (refine W_boxA (d := 6) (sq_stepper hC) rfl rfl rfl ?_)
  try any_goals (refine W_assign (d := 10) (sq_stepper hC) rfl rfl rfl ?_)
  try any_goals (refine W_assign (d := 11) (sq_stepper hC) rfl rfl rfl ?_)
  try any_goals ((refine Sq_nil ?_; try refine G_then ?_))
  try any_goals ((refine H_seq ?_; try refine H_reg ?_))
  try any_goals ((refine W_buildS (d := 21) (sq_stepper hC) [] pI [] (e := 3) (by kernel_rfl) (by kernel_rfl) rfl rfl (by kernel_rfl) rfl rfl rfl trivial ?_))
  try any_goals (refine W_assign (d := 12) (sq_stepper hC) rfl rfl rfl ?_)
  try any_goals (refine W_assign (d := 13) (sq_stepper hC) rfl rfl rfl ?_)
  try any_goals ((refine Sq_nil ?_; try refine G_then ?_))
  try any_goals (refine H_seq ?_)
  try any_goals ((refine H_seq ?_; try refine H_reg ?_))
  try any_goals (refine W_assign (d := 14) (sq_stepper hC) rfl rfl rfl ?_)
  try any_goals ((refine Sq_nil ?_; try refine G_then ?_))
  try any_goals (refine H_block ?_)
  try any_goals ((refine H_loop (σ := Nat) (fun k => k ≤ 2 ^ b.length) (fun k => [(2, .inr (uS e1 pI b)), (3, .inr (uS e2 pDly xs)), (4, .inl (.int .i64 p)), (5, .inr (uP bTab t)), (6, .inr (uP bFlt f)), (12, .inr (uS (some 3) pI (lB t f xs p b k))), (13, .inl (.int .i64 (kB t f xs p b k))), (14, .inl (.int .i64 k))]) (fun _ => Ext w) (fun k => 2 ^ b.length - k) 0 (Nat.zero_le _) (fun a w' h => h.sub (by repeat (first | exact trivial | refine ⟨⟨_, rfl, fun _ _ _ h => h⟩, ?_⟩ | refine ⟨⟨_, rfl, fun v w _ h => (show v = _ from h).trans (congrArg (Value.int .i64) (by first | omega | (dsimp only; omega)))⟩, ?_⟩)) (fun _ h => h)) (fun k hi => ?_); have hcl := cB_len (b := b) (m := k) (k := b.length); have hkl := keptL_len (b := b) (c := cB b k b.length); have hkb0 := h.kBd (k := k); have hll := lB_len (t := t) (f := f) (xs := xs) (p := p) (b := b) (k := k); have hcb := h.cb (c := cB b k b.length)))
  try any_goals (refine H_seq ?_)
  try any_goals ((refine H_seq ?_; try refine H_reg ?_))
  try any_goals (refine W_move (d := 22) (sq_stepper hC) rfl rfl rfl ?_)
  try any_goals (refine W_move (d := 23) (sq_stepper hC) rfl rfl rfl ?_)
  try any_goals (refine W_len (d := 24) (sq_stepper hC) (by kernel_rfl) rfl rfl rfl ?_)
  try any_goals (refine W_cnv (d := 25) (sq_stepper hC) Tryz.underlying3 Tryz.underlying93 (wrapU64 ⟨by omega, by omega⟩) rfl rfl rfl ?_)
  try any_goals (refine W_shl1 (d := 26) (sq_stepper hC) rfl rfl rfl rfl (by omega) ?_)
  try any_goals (refine W_cmp (d := 27) (sq_stepper hC) rfl rfl rfl rfl rfl ?_)
  try any_goals ((refine Sq_nil ?_; try refine G_then ?_))
  try any_goals ((refine H_cond _ rfl (fun hq => ?_) (fun hq => Wt.un 0 ?_) <;> (try simp only [hqs, reduceCtorEq] at hq)))
  try any_goals (refine H_skip ?_)
  try any_goals (refine G_hold 1 ?_)
  try any_goals (refine Wt.out 0 ?_)
  try any_goals (refine H_exit ?_)
  repeat (any_goals (first | refine G_exit_then ?_ | refine G_exit_here ?_ | refine G_exit_far rfl ?_))
  try any_goals (refine G_hold 2 ?_)
  try any_goals (refine Wt.out 1 ?_)
  try any_goals (refine G_then ?_)
  try any_goals (refine H_seq ?_)
  try any_goals (refine H_block ?_)
  try any_goals ((refine H_seq ?_; try refine H_reg ?_))
  try any_goals (refine W_move (d := 30) (sq_stepper hC) rfl rfl rfl ?_)
  try any_goals (refine W_move (d := 31) (sq_stepper hC) rfl rfl rfl ?_)
  try any_goals (refine W_ct (d := 32) (sq_stepper hC) (ct_l19Subset b k hl) rfl rfl rfl (by kernel_rfl) ?_)
  try any_goals (refine W_assign (d := 15) (sq_stepper hC) rfl rfl rfl ?_)
  try any_goals ((refine Sq_nil ?_; try refine G_then ?_))
  try any_goals ((refine H_seq ?_; try refine H_reg ?_))
  try any_goals (refine W_move (d := 33) (sq_stepper hC) rfl rfl rfl ?_)
  try any_goals (refine W_move (d := 34) (sq_stepper hC) rfl rfl rfl ?_)
  try any_goals (refine W_ct (d := 35) (sq_stepper hC) (ct_l19Kept b (cB b k b.length) (by omega)) rfl rfl rfl (by kernel_rfl) ?_)
  try any_goals (refine W_assign (d := 16) (sq_stepper hC) rfl rfl rfl ?_)
  try any_goals ((refine Sq_nil ?_; try refine G_then ?_))
  try any_goals (refine H_seq ?_)
  try any_goals ((refine H_seq ?_; try refine H_reg ?_))
  try any_goals (refine W_loadA (d := 36) (sq_stepper hC) (by kernel_rfl) rfl rfl rfl ?_)
  try any_goals (refine W_loadA (d := 37) (sq_stepper hC) (by kernel_rfl) rfl rfl rfl ?_)
  try any_goals (refine W_move (d := 38) (sq_stepper hC) rfl rfl rfl ?_)
  try any_goals (refine W_ct (d := 39) (sq_stepper hC) (ct_l19Follows t f (keptL b (cB b k b.length)) (by omega) h.hv h.hf (h.kid _)) rfl rfl rfl (by kernel_rfl) ?_)
  try any_goals (refine W_not (d := 40) (sq_stepper hC) rfl rfl rfl ?_)
  try any_goals ((refine Sq_nil ?_; try refine G_then ?_))
  try any_goals ((refine H_cond _ rfl (fun hq => ?_) (fun hq => Wt.un 3 ?_) <;> (try simp only [hqs, reduceCtorEq] at hq)))
  try any_goals (refine H_exit ?_)
  repeat (any_goals (first | refine G_exit_then ?_ | refine G_exit_here ?_ | refine G_exit_far rfl ?_))
  try any_goals (refine G_hold 5 ?_)
  try any_goals (refine Wt.out 3 ?_)
  try any_goals (refine H_skip ?_)
  try any_goals (refine G_then ?_)
  try any_goals ((refine H_seq ?_; try refine H_reg ?_))
  try any_goals (refine W_loadA (d := 41) (sq_stepper hC) (by kernel_rfl) rfl rfl rfl ?_)
  try any_goals (refine W_loadA (d := 42) (sq_stepper hC) (by kernel_rfl) rfl rfl rfl ?_)
  try any_goals (refine W_move (d := 43) (sq_stepper hC) rfl rfl rfl ?_)
  try any_goals (refine W_buildS (d := 44) (sq_stepper hC) [(Operand.tmp 43)] pSI [_] (e := 37) (by kernel_rfl) (by kernel_rfl) rfl rfl (by kernel_rfl) rfl rfl rfl ⟨elem_S, trivial⟩ ?_)
  try any_goals (refine W_move (d := 45) (sq_stepper hC) rfl rfl rfl ?_)
  try any_goals (refine W_ct (d := 46) (sq_stepper hC) (ct_l17Delays t f [keptL b (cB b k b.length)] xs (h.bk _)) rfl rfl rfl (by kernel_rfl) ?_)
  try any_goals (refine W_assign (d := 17) (sq_stepper hC) rfl rfl rfl ?_)
  try any_goals ((refine Sq_nil ?_; try refine G_then ?_))
  try any_goals ((refine H_seq ?_; try refine H_reg ?_))
  try any_goals (refine W_assign (d := 18) (sq_stepper hC) rfl rfl rfl ?_)
  try any_goals ((refine Sq_nil ?_; try refine G_then ?_))
  try any_goals (refine H_seq ?_)
  try any_goals ((refine H_seq ?_; try refine H_reg ?_))
  try any_goals (refine W_assign (d := 19) (sq_stepper hC) rfl rfl rfl ?_)
  try any_goals ((refine Sq_nil ?_; try refine G_then ?_))
  try any_goals (refine H_block ?_)
  try any_goals (((have hok : okB t f b k = true := (by first | assumption | (unfold okB; assumption)); have hdl := (h.bk (cB b k b.length)).all.1; refine H_loop (σ := Nat) (fun i => i ≤ b.length) (fun i => [(2, .inr (uS e1 pI b)), (3, .inr (uS e2 pDly xs)), (4, .inl (.int .i64 p)), (5, .inr (uP bTab t)), (6, .inr (uP bFlt f)), (12, .inr (uS (some 3) pI (lB t f xs p b k))), (13, .inl (.int .i64 (kB t f xs p b k))), (14, .inl (.int .i64 k)), (15, .inr (uS (some 3) pI (cB b k b.length))), (17, .inr (uS (some 3) pI (delR t f [keptL b (cB b k b.length)] xs))), (18, .inl (.int .i64 (sumF (bcK t f xs p b (cB b k b.length)) (b.take i)))), (19, .inl (.int .i64 i))]) (fun _ => Ext w) (fun i => b.length - i) 0 (Nat.zero_le _) (fun a w' h => h.sub (by repeat (first | exact trivial | refine ⟨⟨_, rfl, fun _ _ _ h => h⟩, ?_⟩ | refine ⟨⟨_, rfl, fun v w _ h => (show v = _ from h).trans (congrArg (Value.int .i64) (by first | omega | (dsimp only; omega)))⟩, ?_⟩)) (fun _ h => h)) (fun i hib => ?_); have hsb := h.sb (c := cB b k b.length) hib)))
  try any_goals (refine H_seq ?_)
  try any_goals ((refine H_seq ?_; try refine H_reg ?_))
  try any_goals (refine W_move (d := 47) (sq_stepper hC) rfl rfl rfl ?_)
  try any_goals (refine W_move (d := 48) (sq_stepper hC) rfl rfl rfl ?_)
  try any_goals (refine W_len (d := 49) (sq_stepper hC) (by kernel_rfl) rfl rfl rfl ?_)
  try any_goals (refine W_cmp (d := 50) (sq_stepper hC) rfl rfl rfl rfl rfl ?_)
  try any_goals ((refine Sq_nil ?_; try refine G_then ?_))
  try any_goals ((refine H_cond _ rfl (fun hq => ?_) (fun hq => Wt.un 6 ?_) <;> (try simp only [hqs, reduceCtorEq] at hq)))
  try any_goals (refine H_skip ?_)
  try any_goals (refine G_hold 7 ?_)
  try any_goals (refine Wt.out 6 ?_)
  try any_goals (refine H_exit ?_)
  repeat (any_goals (first | refine G_exit_then ?_ | refine G_exit_here ?_ | refine G_exit_far rfl ?_))
  try any_goals (refine G_hold 8 ?_)
  try any_goals (refine Wt.out 7 ?_)
  try any_goals (refine G_then ?_)
  try any_goals (refine H_seq ?_)
  try any_goals (refine H_block ?_)
  try any_goals (refine H_seq ?_)
  try any_goals ((have hxm : ix b (i : Int) ∈ b := mem_ix (by omega) (by omega); have hxi := h.ids _ hxm; have hxb := fndT_bd (t := t) (id := ix b (i : Int)); have hkb := h.kb (c := cB b k b.length) hxm; have hst : sumF (bcK t f xs p b (cB b k b.length)) (b.take (i + 1)) = sumF (bcK t f xs p b (cB b k b.length)) (b.take i) + bcK t f xs p b (cB b k b.length) (ix b (i : Int)) := sumF_take (by omega)))
  try any_goals (refine H_draw' (by kernel_rfl) hC ?_)
  try any_goals (refine W_loadA (d := 53) wk_stepper (by kernel_rfl) rfl rfl rfl ?_)
  try any_goals (refine W_move (d := 54) wk_stepper rfl rfl rfl ?_)
  try any_goals (refine W_move (d := 55) wk_stepper rfl rfl rfl ?_)
  try any_goals (refine W_index (d := 56) wk_stepper (by kernel_rfl) rfl rfl rfl rfl (by first | omega | (dsimp only; omega)) ?_)
  try any_goals (refine W_loadI (d := 57) wk_stepper (by kernel_rfl) rfl rfl rfl ?_)
  try any_goals (refine W_ct (d := 58) wk_stepper (ct_l5Find _ _) rfl rfl rfl (by kernel_rfl) ?_)
  try any_goals (refine Wk_assign (by kernel_rfl) (by kernel_rfl) ?_)
  try any_goals (refine W_assign (d := 20) (sq_stepper hC) rfl rfl rfl ?_)
  try any_goals ((refine Sq_nil ?_; try refine G_then ?_))
  try any_goals ((refine H_seq ?_; try refine H_reg ?_))
  try any_goals (refine W_move (d := 59) (sq_stepper hC) rfl rfl rfl ?_)
  try any_goals (refine W_move (d := 60) (sq_stepper hC) rfl rfl rfl ?_)
  try any_goals (refine W_move (d := 61) (sq_stepper hC) rfl rfl rfl ?_)
  try any_goals (refine W_index (d := 62) (sq_stepper hC) (by kernel_rfl) rfl rfl rfl rfl (by first | omega | (dsimp only; omega)) ?_)
  try any_goals (refine W_loadI (d := 63) (sq_stepper hC) (by kernel_rfl) rfl rfl rfl ?_)
  try any_goals (refine W_ct (d := 64) (sq_stepper hC) (ct_l1Has _ _) rfl rfl rfl (by kernel_rfl) ?_)
  try any_goals ((refine Sq_nil ?_; try refine G_then ?_))
  try any_goals ((refine H_cond _ rfl (fun hq => ?_) (fun hq => Wt.un 9 ?_) <;> (try simp only [hqs, reduceCtorEq] at hq)))
  try any_goals (rw [bcK_y (by assumption)] at hkb hst)
  try any_goals (refine H_reg ?_)
  try any_goals (refine W_move (d := 65) (sq_stepper hC) rfl rfl rfl ?_)
  try any_goals (refine W_move (d := 66) (sq_stepper hC) rfl rfl rfl ?_)
  try any_goals (refine W_loadA (d := 67) (sq_stepper hC) (by kernel_rfl) rfl rfl rfl ?_)
  try any_goals (refine W_move (d := 68) (sq_stepper hC) rfl rfl rfl ?_)
  try any_goals (refine W_ct (d := 69) (sq_stepper hC) (ct_l5Stops _ _ ⟨by omega, by omega⟩ (tr_ok h.hv ⟨by omega, by omega⟩).1) rfl rfl rfl (by kernel_rfl) ?_)
  try any_goals (refine W_len (d := 70) (sq_stepper hC) (by kernel_rfl) rfl rfl rfl ?_)
  try any_goals (refine W_ar (d := 71) (sq_stepper hC) rfl rfl rfl rfl rfl (by first | omega | (dsimp only; omega)) ?_)
  try any_goals (refine W_ar (d := 72) (sq_stepper hC) rfl rfl rfl rfl rfl (by first | omega | (dsimp only; omega)) ?_)
  try any_goals (refine W_assign (d := 18) (sq_stepper hC) rfl rfl rfl ?_)
  try any_goals (refine Sq_nil ?_)
  try any_goals (refine Wt.out 9 ?_)
  try any_goals (rw [bcK_n (by assumption)] at hkb hst)
  try any_goals (refine H_draw' (by kernel_rfl) hC ?_)
  try any_goals (refine W_move (d := 73) wk_stepper rfl rfl rfl ?_)
  try any_goals (refine W_move (d := 74) wk_stepper rfl rfl rfl ?_)
  try any_goals (refine W_move (d := 75) wk_stepper rfl rfl rfl ?_)
  try any_goals (refine W_index (d := 76) wk_stepper (by kernel_rfl) rfl rfl rfl rfl (by first | omega | (dsimp only; omega)) ?_)
  try any_goals (refine W_loadI (d := 77) wk_stepper (by kernel_rfl) rfl rfl rfl ?_)
  try any_goals (refine W_loadA (d := 78) wk_stepper (by kernel_rfl) rfl rfl rfl ?_)
  try any_goals (refine W_move (d := 79) wk_stepper rfl rfl rfl ?_)
  try any_goals (refine W_ct (d := 80) wk_stepper (ct_l5Stops _ _ ⟨by omega, by omega⟩ (tr_ok h.hv ⟨by omega, by omega⟩).1) rfl rfl rfl (by kernel_rfl) ?_)
  try any_goals (refine W_len (d := 81) wk_stepper (by kernel_rfl) rfl rfl rfl ?_)
  try any_goals (refine W_ar (d := 82) wk_stepper rfl rfl rfl rfl rfl (by first | omega | (dsimp only; omega)) ?_)
  try any_goals (refine W_ar (d := 83) wk_stepper rfl rfl rfl rfl rfl (by first | omega | (dsimp only; omega)) ?_)
  try any_goals (refine Wk_assign (by kernel_rfl) (by kernel_rfl) ?_)
  try any_goals (refine W_assign (d := 18) (sq_stepper hC) rfl rfl rfl ?_)
  try any_goals (refine Sq_nil ?_)
  repeat (any_goals (first | refine G_exit_then ?_ | refine G_exit_here ?_ | refine G_exit_far rfl ?_ | refine G_normal_block ?_))
  try any_goals (refine G_then ?_)
  try any_goals (refine H_reg ?_)
  try any_goals (refine W_move (d := 51) (sq_stepper hC) rfl rfl rfl ?_)
  try any_goals (refine W_ar (d := 52) (sq_stepper hC) rfl rfl rfl rfl rfl (by first | omega | (dsimp only; omega)) ?_)
  try any_goals (refine W_assign (d := 19) (sq_stepper hC) rfl rfl rfl ?_)
  try any_goals (refine Sq_nil ?_)
  try any_goals (refine G_again (i + 1) (by omega) (by omega) (by rw [hst]; exact (by repeat (first | exact trivial | refine ⟨⟨_, rfl, fun _ _ _ h => h⟩, ?_⟩ | refine ⟨⟨_, rfl, fun v w _ h => (show v = _ from h).trans (congrArg (Value.int .i64) (by first | omega | (dsimp only; omega)))⟩, ?_⟩))) (fun _ h => h))
  try any_goals (refine Wt.out 8 ?_)
  repeat (any_goals (first | refine G_exit_then ?_ | refine G_exit_here ?_ | refine G_exit_far rfl ?_ | refine G_normal_block ?_))
  try any_goals (refine G_then ?_)
  try any_goals (refine H_seq ?_)
  try any_goals ((have hie : i = b.length := (by omega); have hco : sumF (bcK t f xs p b (cB b k b.length)) (b.take i) = coB t f xs p b k := (by rw [hie, List.take_length]; rfl)))
  try any_goals (refine H_reg ?_)
  try any_goals (refine W_move (d := 84) (sq_stepper hC) rfl rfl rfl ?_)
  try any_goals (refine W_cmp (d := 85) (sq_stepper hC) rfl rfl rfl rfl rfl ?_)
  try any_goals (refine W_move (d := 86) (sq_stepper hC) rfl rfl rfl ?_)
  try any_goals ((refine W_splitG (sq_stepper hC) _ rfl _ rfl (fun hq => ?_) (fun hq => ?_) <;> ((try simp only [hqs, reduceCtorEq] at hq); try (have hq' := hq; clear hq))))
  try any_goals (first | refine W_skip (d := 87) (sq_stepper hC) rfl rfl ?_ | refine W_move (d := 87) (sq_stepper hC) rfl rfl rfl ?_)
  try any_goals (first | refine W_skip (d := 88) (sq_stepper hC) rfl rfl ?_ | refine W_move (d := 88) (sq_stepper hC) rfl rfl rfl ?_)
  try any_goals (first | refine W_skip (d := 89) (sq_stepper hC) rfl rfl ?_ | refine W_cmp (d := 89) (sq_stepper hC) rfl rfl rfl rfl rfl ?_)
  try any_goals (first | refine W_pickT (d := 90) (sq_stepper hC) rfl rfl rfl rfl ?_ | refine W_pickF (d := 90) (sq_stepper hC) rfl rfl rfl rfl ?_)
  try any_goals (refine W_move (d := 91) (sq_stepper hC) rfl rfl rfl ?_)
  try any_goals ((refine W_splitG (sq_stepper hC) _ rfl _ rfl (fun hq => ?_) (fun hq => ?_) <;> ((try simp only [hqs, reduceCtorEq] at hq); try (have hq' := hq; clear hq))))
  try any_goals (first | refine W_skip (d := 92) (sq_stepper hC) rfl rfl ?_ | refine W_move (d := 92) (sq_stepper hC) rfl rfl rfl ?_)
  try any_goals (first | refine W_skip (d := 93) (sq_stepper hC) rfl rfl ?_ | refine W_move (d := 93) (sq_stepper hC) rfl rfl rfl ?_)
  try any_goals (first | refine W_skip (d := 94) (sq_stepper hC) rfl rfl ?_ | refine W_cmp (d := 94) (sq_stepper hC) rfl rfl rfl rfl rfl ?_)
  try any_goals (first | refine W_skip (d := 95) (sq_stepper hC) rfl rfl ?_ | refine W_move (d := 95) (sq_stepper hC) rfl rfl rfl ?_)
  try any_goals ((refine W_splitG (sq_stepper hC) _ rfl _ rfl (fun hq => ?_) (fun hq => ?_) <;> ((try simp only [hqs, reduceCtorEq] at hq); try (have hq' := hq; clear hq))))
  try any_goals (first | refine W_skip (d := 96) (sq_stepper hC) rfl rfl ?_ | refine W_move (d := 96) (sq_stepper hC) rfl rfl rfl ?_)
  try any_goals (first | refine W_skip (d := 97) (sq_stepper hC) rfl rfl ?_ | refine W_len (d := 97) (sq_stepper hC) (by kernel_rfl) rfl rfl rfl ?_)
  try any_goals (first | refine W_skip (d := 98) (sq_stepper hC) rfl rfl ?_ | refine W_move (d := 98) (sq_stepper hC) rfl rfl rfl ?_)
  try any_goals (first | refine W_skip (d := 99) (sq_stepper hC) rfl rfl ?_ | refine W_len (d := 99) (sq_stepper hC) (by kernel_rfl) rfl rfl rfl ?_)
  try any_goals (first | refine W_skip (d := 100) (sq_stepper hC) rfl rfl ?_ | refine W_cmp (d := 100) (sq_stepper hC) rfl rfl rfl rfl rfl ?_)
  try any_goals (first | refine W_skip (d := 101) (sq_stepper hC) rfl rfl ?_ | refine W_move (d := 101) (sq_stepper hC) rfl rfl rfl ?_)
  try any_goals ((refine W_splitG (sq_stepper hC) _ rfl _ rfl (fun hq => ?_) (fun hq => ?_) <;> ((try simp only [hqs, reduceCtorEq] at hq); try (have hq' := hq; clear hq))))
  try any_goals (first | refine W_skip (d := 102) (sq_stepper hC) rfl rfl ?_ | refine W_move (d := 102) (sq_stepper hC) rfl rfl rfl ?_)
  try any_goals (first | refine W_skip (d := 103) (sq_stepper hC) rfl rfl ?_ | refine W_len (d := 103) (sq_stepper hC) (by kernel_rfl) rfl rfl rfl ?_)
  try any_goals (first | refine W_skip (d := 104) (sq_stepper hC) rfl rfl ?_ | refine W_move (d := 104) (sq_stepper hC) rfl rfl rfl ?_)
  try any_goals (first | refine W_skip (d := 105) (sq_stepper hC) rfl rfl ?_ | refine W_len (d := 105) (sq_stepper hC) (by kernel_rfl) rfl rfl rfl ?_)
  try any_goals (first | refine W_skip (d := 106) (sq_stepper hC) rfl rfl ?_ | refine W_cmp (d := 106) (sq_stepper hC) rfl rfl rfl rfl rfl ?_)
  try any_goals (first | refine W_skip (d := 107) (sq_stepper hC) rfl rfl ?_ | refine W_move (d := 107) (sq_stepper hC) rfl rfl rfl ?_)
  try any_goals ((refine W_splitG (sq_stepper hC) _ rfl _ rfl (fun hq => ?_) (fun hq => ?_) <;> ((try simp only [hqs, reduceCtorEq] at hq); try (have hq' := hq; clear hq))))
  try any_goals (first | refine W_skip (d := 108) (sq_stepper hC) rfl rfl ?_ | refine W_move (d := 108) (sq_stepper hC) rfl rfl rfl ?_)
  try any_goals (first | refine W_skip (d := 109) (sq_stepper hC) rfl rfl ?_ | refine W_move (d := 109) (sq_stepper hC) rfl rfl rfl ?_)
  try any_goals (first | refine W_skip (d := 110) (sq_stepper hC) rfl rfl ?_ | refine W_ct (d := 110) (sq_stepper hC) (ct_l19Smaller _ _) rfl rfl rfl (by kernel_rfl) ?_)
  try any_goals (first | refine W_skip (d := 111) (sq_stepper hC) rfl rfl ?_ | refine W_pickT (d := 111) (sq_stepper hC) rfl rfl rfl rfl ?_ | refine W_pickF (d := 111) (sq_stepper hC) rfl rfl rfl rfl ?_)
  try any_goals (first | refine W_skip (d := 112) (sq_stepper hC) rfl rfl ?_ | refine W_pickT (d := 112) (sq_stepper hC) rfl rfl rfl rfl ?_ | refine W_pickF (d := 112) (sq_stepper hC) rfl rfl rfl rfl ?_)
  try any_goals (first | refine W_skip (d := 113) (sq_stepper hC) rfl rfl ?_ | refine W_pickT (d := 113) (sq_stepper hC) rfl rfl rfl rfl ?_ | refine W_pickF (d := 113) (sq_stepper hC) rfl rfl rfl rfl ?_)
  try any_goals (first | refine W_pickT (d := 114) (sq_stepper hC) rfl rfl rfl rfl ?_ | refine W_pickF (d := 114) (sq_stepper hC) rfl rfl rfl rfl ?_)
  try any_goals ((refine Sq_nil ?_; try refine G_then ?_))
  try any_goals (first | refine H_condT rfl ?_ | refine H_condF rfl (Wt.un 11 ?_) | (refine H_cond _ rfl (fun hq => ?_) (fun hq => Wt.un 11 ?_) <;> (try simp only [hqs, reduceCtorEq] at hq)))
  try any_goals ((refine H_seq ?_; try refine H_reg ?_))
  try any_goals (refine W_move (d := 115) (sq_stepper hC) rfl rfl rfl ?_)
  try any_goals (refine W_assign (d := 12) (sq_stepper hC) rfl rfl rfl ?_)
  try any_goals ((refine Sq_nil ?_; try refine G_then ?_))
  try any_goals (refine H_reg ?_)
  try any_goals (refine W_move (d := 116) (sq_stepper hC) rfl rfl rfl ?_)
  try any_goals (refine W_assign (d := 13) (sq_stepper hC) rfl rfl rfl ?_)
  try any_goals (refine Sq_nil ?_)
  try any_goals (refine Wt.out 11 ?_)
  try any_goals (refine H_skip ?_)
  try any_goals (refine Wt.out 5 ?_)
  repeat (any_goals (first | refine G_exit_then ?_ | refine G_exit_here ?_ | refine G_exit_far rfl ?_ | refine G_normal_block ?_))
  try any_goals (refine G_then ?_)
  try any_goals (refine H_reg ?_)
  try any_goals (refine W_move (d := 28) (sq_stepper hC) rfl rfl rfl ?_)
  try any_goals (refine W_ar (d := 29) (sq_stepper hC) rfl rfl rfl rfl rfl (by first | omega | (dsimp only; omega)) ?_)
  try any_goals (refine W_assign (d := 14) (sq_stepper hC) rfl rfl rfl ?_)
  try any_goals (refine Sq_nil ?_)
  try any_goals (first | (have hs := rw_no (t := t) (f := f) (xs := xs) (p := p) (b := b) (k := k) (by assumption); exact G_again (k + 1) (by omega) (by omega) (by rw [hs.1, hs.2]; exact (by repeat (first | exact trivial | refine ⟨⟨_, rfl, fun _ _ _ h => h⟩, ?_⟩ | refine ⟨⟨_, rfl, fun v w _ h => (show v = _ from h).trans (congrArg (Value.int .i64) (by first | omega | (dsimp only; omega)))⟩, ?_⟩))) (fun _ h => h)) | (have hu : kB t f xs p b k < 0 ∨ kyL (coB t f xs p b k) (cB b k b.length) (kB t f xs p b k) (lB t f xs p b k) = true := (by first | exact .inl (by omega) | exact .inr (kyL_t.2 (.inl (by omega))) | exact .inr (kyL_t.2 (.inr ⟨by omega, .inl (by omega)⟩)) | exact .inr (kyL_t.2 (.inr ⟨by omega, .inr ⟨by omega, by assumption⟩⟩))); have hs := h.up hok hu; exact G_again (k + 1) (by omega) (by omega) (by rw [hs.1, hs.2, ← hco]; exact (by repeat (first | exact trivial | refine ⟨⟨_, rfl, fun _ _ _ h => h⟩, ?_⟩ | refine ⟨⟨_, rfl, fun v w _ h => (show v = _ from h).trans (congrArg (Value.int .i64) (by first | omega | (dsimp only; omega)))⟩, ?_⟩))) (fun _ h => h)) | (have hu : ¬ (kB t f xs p b k < 0 ∨ kyL (coB t f xs p b k) (cB b k b.length) (kB t f xs p b k) (lB t f xs p b k) = true) := ky_no (by omega) (by first | exact .inl (by omega) | exact .inr (.inl ⟨by omega, by omega, by omega⟩) | exact .inr (.inr ⟨by omega, by omega, by assumption⟩)); have hs := rw_same hok hu; exact G_again (k + 1) (by omega) (by omega) (by rw [hs.1, hs.2]; exact (by repeat (first | exact trivial | refine ⟨⟨_, rfl, fun _ _ _ h => h⟩, ?_⟩ | refine ⟨⟨_, rfl, fun v w _ h => (show v = _ from h).trans (congrArg (Value.int .i64) (by first | omega | (dsimp only; omega)))⟩, ?_⟩))) (fun _ h => h)))
  try any_goals (refine Wt.out 2 ?_)
  repeat (any_goals (first | refine G_exit_then ?_ | refine G_exit_here ?_ | refine G_exit_far rfl ?_ | refine G_normal_block ?_))
  try any_goals (refine G_then ?_)
  try any_goals ((refine H_seq ?_; try refine H_reg ?_))
  try any_goals (refine W_move (d := 117) (sq_stepper hC) rfl rfl rfl ?_)
  try any_goals (refine W_move (d := 118) (sq_stepper hC) rfl rfl rfl ?_)
  try any_goals (refine W_assign (d := 10) (sq_stepper hC) rfl rfl rfl ?_)
  try any_goals (refine W_assign (d := 11) (sq_stepper hC) rfl rfl rfl ?_)
  try any_goals ((refine Sq_nil ?_; try refine G_then ?_))
  try any_goals (refine H_ret ?_)
  repeat (any_goals (first | refine G_ret_then ?_ | refine G_ret_block ?_))
  all_goals (try dsimp only)
  all_goals first
    | (have e : k = 2 ^ b.length := by omega
       subst e
       exact R2 rfl (fun _ h => h) rfl rfl (fun v w' _ hv => hv) (fun v w' _ hv => hv))
    | trace_state
end Go.Proofs.YtanlaggnhocjhaaGreat
namespace Go.Proofs.YtanlaggnhocjhaaGreat
set_option linter.unusedSimpArgs false
set_option linter.unusedVariables false
open Go.RowKit Go.ChangeShapes Go.WideShapes Go.ChangeAt Go.Deep
def bsOk (t : Tab) (f : Flt) (B : List (List Int)) (xs : List Dly) (p : Int) : Bool := latB t f B xs && inB p 0 1000
def bsR (t : Tab) (f : Flt) (B : List (List Int)) (xs : List Dly) (p : Int) : List Int := if bsOk t f B xs p then unS t f B xs p B.length else []
def bsS (t : Tab) (f : Flt) (B : List (List Int)) (xs : List Dly) (p : Int) : Int := if bsOk t f B xs p then smS t f B xs p B.length else 0
theorem bsOk_n {t : Tab} {f : Flt} {B : List (List Int)} {xs : List Dly} {p : Int} (h : latB t f B xs = false) : bsOk t f B xs p = false := by rw [bsOk, h]; rfl
theorem bsOk_n2 {t : Tab} {f : Flt} {B : List (List Int)} {xs : List Dly} {p : Int} (h : p < 0 ∨ 1000 < p) : bsOk t f B xs p = false := by rw [bsOk, show inB p 0 1000 = false from inB_no h, Bool.and_false]
theorem bsOk_y {t : Tab} {f : Flt} {B : List (List Int)} {xs : List Dly} {p : Int} (h : latB t f B xs = true) (h2 : 0 ≤ p ∧ p ≤ 1000) : bsOk t f B xs p = true := by rw [bsOk, h, show inB p 0 1000 = true from inB_yes h2]; rfl
theorem bsR_n {t : Tab} {f : Flt} {B : List (List Int)} {xs : List Dly} {p : Int} (h : bsOk t f B xs p = false) : bsR t f B xs p = [] := by rw [bsR, h]; rfl
theorem bsS_n {t : Tab} {f : Flt} {B : List (List Int)} {xs : List Dly} {p : Int} (h : bsOk t f B xs p = false) : bsS t f B xs p = 0 := by rw [bsS, h]; rfl
theorem bsR_y {t : Tab} {f : Flt} {B : List (List Int)} {xs : List Dly} {p : Int} (h : bsOk t f B xs p = true) : bsR t f B xs p = unS t f B xs p B.length := by rw [bsR, h]; rfl
theorem bsS_y {t : Tab} {f : Flt} {B : List (List Int)} {xs : List Dly} {p : Int} (h : bsOk t f B xs p = true) : bsS t f B xs p = smS t f B xs p B.length := by rw [bsS, h]; rfl
theorem latB_prt {t : Tab} {f : Flt} {B : List (List Int)} {xs : List Dly} (h : latB t f B xs = true) : Prt t B := by
  simp only [latB, Bool.and_eq_true] at h
  exact Prt.of h.1.2
theorem ids_len {t : Tab} {l : List Int} (hl : l.Nodup) (h : ∀ x ∈ l, 0 ≤ fndT t x) : l.length ≤ t.T.length := by
  have h1 := pigeon (n := t.T.length) (l := l.map (fndT t)) (by
    unfold List.Nodup
    rw [List.pairwise_map]
    refine List.Pairwise.imp_of_mem ?_ hl
    intro a b ha hb hne e
    exact hne (fnd_inj (h a ha) (h b hb) e)) (fun x hx => by
    obtain ⟨y, hy, rfl⟩ := List.mem_map.1 hx
    exact ⟨h y hy, fndT_bd.2⟩)
  rwa [List.length_map] at h1
theorem unS_ids {t : Tab} {f : Flt} {B : List (List Int)} {xs : List Dly} {p : Int} (hP : Prt t B) {i : Nat} (hi : i ≤ B.length) {x : Int} (hx : x ∈ unS t f B xs p i) : 0 ≤ fndT t x := by
  obtain ⟨j, h1, h2⟩ := ((unS_spec hP hi).2 x).1 hx
  have hb : ix B (j : Int) ∈ B := mem_ix (by omega) (by omega)
  exact hP.ids x (List.mem_flatten.2 ⟨_, hb, (Bst.of (hP.rnd hb)).sub x h2⟩)
theorem unS_len {t : Tab} {f : Flt} {B : List (List Int)} {xs : List Dly} {p : Int} (hP : Prt t B) {i : Nat} (hi : i ≤ B.length) : (unS t f B xs p i).length ≤ t.T.length := ids_len (asc_nodup (unS_spec hP hi).1) fun _ hx => unS_ids hP hi hx
theorem RwK.of {t : Tab} {f : Flt} {B : List (List Int)} {xs : List Dly} {p : Int} (h : BlV t f B) (hm : MinOk xs) (hp : 0 ≤ p ∧ p ≤ 1000) {i : Nat} (hi : (i : Int) < B.length) : RwK t f xs p (ix B (i : Int)) := ⟨h.hv, h.hf, fun x hx => by
  obtain ⟨k, hk, e⟩ := ix_ex hx
  rw [← e]
  exact h.ids i k hi (by omega), by have := h.row i hi; omega, hm, hp⟩
theorem smS_bd {t : Tab} {f : Flt} {B : List (List Int)} {xs : List Dly} {p : Int} (h : BlV t f B) (hm : MinOk xs) (hp : 0 ≤ p ∧ p ≤ 1000) : ∀ {i : Nat}, i ≤ B.length → -1 * (i : Int) ≤ smS t f B xs p i ∧ smS t f B xs p i ≤ 1900800 * i
  | 0, _ => by simp [smS]
  | i + 1, hi => by
    have h1 := smS_bd h hm hp (i := i) (by omega)
    have h2 := (RwK.of h hm hp (i := i) (by omega)).kBd (k := 2 ^ (ix B (i : Int)).length)
    rw [smS]
    omega
theorem bsR_len {t : Tab} {f : Flt} {B : List (List Int)} {xs : List Dly} {p : Int} : (bsR t f B xs p).length ≤ 12 := by
  unfold bsR
  split
  · rename_i h
    simp only [bsOk, Bool.and_eq_true] at h
    have h1 := unS_len (f := f) (xs := xs) (p := p) (latB_prt h.1) (Nat.le_refl B.length)
    have h2 := (tabB_k (latB_bl h.1).hv).2.1
    omega
  · simp
theorem ct_sBst {e1 e2 e3 : Option TypeId} (t : Tab) (f : Flt) (B : List (List Int)) (xs : List Dly) (p : Int) : CT Tryz.prog 8 [.inr (uA bTab t), .inr (uA bFlt f), .inr (uS e1 (pS e2 pI) B), .inr (uS e3 pDly xs), .inl (.int .i64 p)] (.inr (uT [.inr (uS (some 3) pI (bsR t f B xs p)), .inl (.int .i64 (bsS t f B xs p)), .inl (.bool (bsOk t f B xs p))])) := by
  refine CT_of Tryz.func8 rfl rfl rfl (fun w => ?_)
  have hC := upC_ext w
  have hA := ct_l17Asked (e1 := e1) (e2 := e2) (e3 := e3) t f B xs
  cases h : latB t f B xs
  · rw [h] at hA
    try any_goals ((refine H_seq ?_; try refine H_reg ?_))
    try any_goals (refine W_boxA (d := 5) (sq_stepper hC) rfl rfl rfl ?_)
    try any_goals (refine W_boxA (d := 6) (sq_stepper hC) rfl rfl rfl ?_)
    try any_goals (refine W_assign (d := 10) (sq_stepper hC) rfl rfl rfl ?_)
    try any_goals (refine W_assign (d := 11) (sq_stepper hC) rfl rfl rfl ?_)
    try any_goals (refine W_assign (d := 12) (sq_stepper hC) rfl rfl rfl ?_)
    try any_goals ((refine Sq_nil ?_; try refine G_then ?_))
    try any_goals ((refine H_seq ?_; try refine H_reg ?_))
    try any_goals ((refine W_buildS (d := 18) (sq_stepper hC) [] pI [] (e := 3) (by kernel_rfl) (by kernel_rfl) rfl rfl (by kernel_rfl) rfl rfl rfl trivial ?_))
    try any_goals (refine W_assign (d := 13) (sq_stepper hC) rfl rfl rfl ?_)
    try any_goals ((refine Sq_nil ?_; try refine G_then ?_))
    try any_goals (refine H_seq ?_)
    try any_goals ((refine H_seq ?_; try refine H_reg ?_))
    try any_goals (refine W_loadA (d := 19) (sq_stepper hC) (by kernel_rfl) rfl rfl rfl ?_)
    try any_goals (refine W_loadA (d := 20) (sq_stepper hC) (by kernel_rfl) rfl rfl rfl ?_)
    try any_goals (refine W_move (d := 21) (sq_stepper hC) rfl rfl rfl ?_)
    try any_goals (refine W_move (d := 22) (sq_stepper hC) rfl rfl rfl ?_)
    try any_goals (refine W_ct (d := 23) (sq_stepper hC) (hA) rfl rfl rfl (by kernel_rfl) ?_)
    try any_goals (refine W_not (d := 24) (sq_stepper hC) rfl rfl rfl ?_)
    try any_goals (refine W_move (d := 25) (sq_stepper hC) rfl rfl rfl ?_)
    try any_goals ((refine W_splitG (sq_stepper hC) _ rfl _ rfl (fun hq => ?_) (fun hq => ?_) <;> ((try simp only [hqs, reduceCtorEq] at hq); try (have hq' := hq; clear hq))))
    try any_goals (refine W_skip (d := 26) (sq_stepper hC) rfl rfl ?_)
    try any_goals (refine W_skip (d := 27) (sq_stepper hC) rfl rfl ?_)
    try any_goals (refine W_skip (d := 28) (sq_stepper hC) rfl rfl ?_)
    try any_goals (refine W_pickT (d := 29) (sq_stepper hC) rfl rfl rfl rfl ?_)
    try any_goals ((refine Sq_nil ?_; try refine G_then ?_))
    try any_goals (refine H_condT rfl ?_)
    try any_goals ((refine H_seq ?_; try refine H_reg ?_))
    try any_goals (refine W_move (d := 30) (sq_stepper hC) rfl rfl rfl ?_)
    try any_goals (refine W_assign (d := 10) (sq_stepper hC) rfl rfl rfl ?_)
    try any_goals (refine W_assign (d := 11) (sq_stepper hC) rfl rfl rfl ?_)
    try any_goals (refine W_assign (d := 12) (sq_stepper hC) rfl rfl rfl ?_)
    try any_goals ((refine Sq_nil ?_; try refine G_then ?_))
    try any_goals (refine H_ret ?_)
    repeat (any_goals (first | refine G_ret_then ?_ | refine G_ret_block ?_))
    repeat (any_goals (first | refine G_exit_then ?_ | refine G_exit_here ?_ | refine G_exit_far rfl ?_))
    repeat (any_goals (first | refine G_exit_then ?_ | refine G_exit_here ?_ | refine G_exit_far rfl ?_ | refine G_normal_block ?_))
    repeat (any_goals (first | refine G_exit_then ?_ | refine G_exit_here ?_ | refine G_exit_far rfl ?_ | refine G_normal_block ?_))
    repeat (any_goals (first | refine G_ret_then ?_ | refine G_ret_block ?_))
    all_goals first
      | exact R3 rfl (fun _ h => h) rfl rfl rfl (fun v w' _ hv => by rw [bsR_n (bsOk_n h)]; exact hv) (fun v w' _ hv => by rw [bsS_n (bsOk_n h)]; exact hv) (fun v w' _ hv => by rw [bsOk_n h]; exact hv)
      | trace_state
  · rw [h] at hA
    have hk := latB_bl h
    have hm := latB_mn h
    have hP := latB_prt h
    have hln := hk.len
    have h12 := (tabB_k hk.hv).2.1
    try any_goals ((refine H_seq ?_; try refine H_reg ?_))
    try any_goals (refine W_boxA (d := 5) (sq_stepper hC) rfl rfl rfl ?_)
    try any_goals (refine W_boxA (d := 6) (sq_stepper hC) rfl rfl rfl ?_)
    try any_goals (refine W_assign (d := 10) (sq_stepper hC) rfl rfl rfl ?_)
    try any_goals (refine W_assign (d := 11) (sq_stepper hC) rfl rfl rfl ?_)
    try any_goals (refine W_assign (d := 12) (sq_stepper hC) rfl rfl rfl ?_)
    try any_goals ((refine Sq_nil ?_; try refine G_then ?_))
    try any_goals ((refine H_seq ?_; try refine H_reg ?_))
    try any_goals ((refine W_buildS (d := 18) (sq_stepper hC) [] pI [] (e := 3) (by kernel_rfl) (by kernel_rfl) rfl rfl (by kernel_rfl) rfl rfl rfl trivial ?_))
    try any_goals (refine W_assign (d := 13) (sq_stepper hC) rfl rfl rfl ?_)
    try any_goals ((refine Sq_nil ?_; try refine G_then ?_))
    try any_goals (refine H_seq ?_)
    try any_goals ((refine H_seq ?_; try refine H_reg ?_))
    try any_goals (refine W_loadA (d := 19) (sq_stepper hC) (by kernel_rfl) rfl rfl rfl ?_)
    try any_goals (refine W_loadA (d := 20) (sq_stepper hC) (by kernel_rfl) rfl rfl rfl ?_)
    try any_goals (refine W_move (d := 21) (sq_stepper hC) rfl rfl rfl ?_)
    try any_goals (refine W_move (d := 22) (sq_stepper hC) rfl rfl rfl ?_)
    try any_goals (refine W_ct (d := 23) (sq_stepper hC) (hA) rfl rfl rfl (by kernel_rfl) ?_)
    try any_goals (refine W_not (d := 24) (sq_stepper hC) rfl rfl rfl ?_)
    try any_goals (refine W_move (d := 25) (sq_stepper hC) rfl rfl rfl ?_)
    try any_goals ((refine W_splitG (sq_stepper hC) _ rfl _ rfl (fun hq => ?_) (fun hq => ?_) <;> ((try simp only [hqs, reduceCtorEq] at hq); try (have hq' := hq; clear hq))))
    try any_goals (refine W_move (d := 26) (sq_stepper hC) rfl rfl rfl ?_)
    try any_goals (refine W_ct (d := 27) (sq_stepper hC) (ct_l1In _ _ _) rfl rfl rfl (by kernel_rfl) ?_)
    try any_goals (refine W_not (d := 28) (sq_stepper hC) rfl rfl rfl ?_)
    try any_goals (refine W_pickF (d := 29) (sq_stepper hC) rfl rfl rfl rfl ?_)
    try any_goals ((refine Sq_nil ?_; try refine G_then ?_))
    try any_goals ((refine H_cond _ rfl (fun hq => ?_) (fun hq => Wt.un 0 ?_) <;> (try simp only [hqs, reduceCtorEq] at hq)))
    try any_goals ((refine H_seq ?_; try refine H_reg ?_))
    try any_goals (refine W_move (d := 30) (sq_stepper hC) rfl rfl rfl ?_)
    try any_goals (refine W_assign (d := 10) (sq_stepper hC) rfl rfl rfl ?_)
    try any_goals (refine W_assign (d := 11) (sq_stepper hC) rfl rfl rfl ?_)
    try any_goals (refine W_assign (d := 12) (sq_stepper hC) rfl rfl rfl ?_)
    try any_goals ((refine Sq_nil ?_; try refine G_then ?_))
    try any_goals (refine H_ret ?_)
    repeat (any_goals (first | refine G_ret_then ?_ | refine G_ret_block ?_))
    try any_goals (refine Wt.out 0 ?_)
    try any_goals (refine H_skip ?_)
    try any_goals (refine G_then ?_)
    try any_goals (refine H_seq ?_)
    try any_goals (have hp : 0 ≤ p ∧ p ≤ 1000 := (by omega))
    try any_goals (refine H_reg ?_)
    try any_goals (refine W_assign (d := 14) (sq_stepper hC) rfl rfl rfl ?_)
    try any_goals ((refine Sq_nil ?_; try refine G_then ?_))
    try any_goals (refine H_seq ?_)
    try any_goals ((refine H_seq ?_; try refine H_reg ?_))
    try any_goals (refine W_assign (d := 15) (sq_stepper hC) rfl rfl rfl ?_)
    try any_goals ((refine Sq_nil ?_; try refine G_then ?_))
    try any_goals (refine H_block ?_)
    try any_goals ((refine H_loop (σ := Nat) (fun i => i ≤ B.length) (fun i => [(2, .inr (uS e1 (pS e2 pI) B)), (3, .inr (uS e3 pDly xs)), (4, .inl (.int .i64 p)), (5, .inr (uP bTab t)), (6, .inr (uP bFlt f)), (13, .inr (uS (some 3) pI (unS t f B xs p i))), (14, .inl (.int .i64 (smS t f B xs p i))), (15, .inl (.int .i64 i))]) (fun _ => Ext w) (fun i => B.length - i) 0 (Nat.zero_le _) (fun a w' h => h.sub (by repeat (first | exact trivial | refine ⟨⟨_, rfl, fun _ _ _ h => h⟩, ?_⟩ | refine ⟨⟨_, rfl, fun v w _ h => (show v = _ from h).trans (congrArg (Value.int .i64) (by first | omega | (dsimp only; omega)))⟩, ?_⟩)) (fun _ h => h)) (fun i hi => ?_); have hul := unS_len (f := f) (xs := xs) (p := p) hP hi; have hsb := smS_bd hk hm hp hi))
    try any_goals (refine H_seq ?_)
    try any_goals ((refine H_seq ?_; try refine H_reg ?_))
    try any_goals (refine W_move (d := 31) (sq_stepper hC) rfl rfl rfl ?_)
    try any_goals (refine W_move (d := 32) (sq_stepper hC) rfl rfl rfl ?_)
    try any_goals (refine W_len (d := 33) (sq_stepper hC) (by kernel_rfl) rfl rfl rfl ?_)
    try any_goals (refine W_cmp (d := 34) (sq_stepper hC) rfl rfl rfl rfl rfl ?_)
    try any_goals ((refine Sq_nil ?_; try refine G_then ?_))
    try any_goals ((refine H_cond _ rfl (fun hq => ?_) (fun hq => Wt.un 2 ?_) <;> (try simp only [hqs, reduceCtorEq] at hq)))
    try any_goals (refine H_skip ?_)
    try any_goals (refine G_hold 3 ?_)
    try any_goals (refine Wt.out 2 ?_)
    try any_goals (refine H_exit ?_)
    repeat (any_goals (first | refine G_exit_then ?_ | refine G_exit_here ?_ | refine G_exit_far rfl ?_))
    try any_goals (refine G_hold 4 ?_)
    try any_goals (refine Wt.out 3 ?_)
    try any_goals (refine G_then ?_)
    try any_goals (refine H_seq ?_)
    try any_goals (refine H_block ?_)
    try any_goals (refine H_seq ?_)
    try any_goals ((have hR := RwK.of hk hm hp (i := i) (by omega); have hRl := hR.hl; have hdl : (dB t f xs p (ix B (i : Int))).length ≤ (ix B (i : Int)).length := lB_len; have hkb := hR.kBd (k := 2 ^ (ix B (i : Int)).length)))
    try any_goals (refine H_draw' (by kernel_rfl) hC ?_)
    try any_goals (refine W_loadA (d := 38) wk_stepper (by kernel_rfl) rfl rfl rfl ?_)
    try any_goals (refine W_loadA (d := 39) wk_stepper (by kernel_rfl) rfl rfl rfl ?_)
    try any_goals (refine W_move (d := 40) wk_stepper rfl rfl rfl ?_)
    try any_goals (refine W_move (d := 41) wk_stepper rfl rfl rfl ?_)
    try any_goals (refine W_index (d := 42) wk_stepper (by kernel_rfl) rfl rfl rfl rfl (by first | omega | (dsimp only; omega)) ?_)
    try any_goals (refine W_loadS (d := 43) wk_stepper (by kernel_rfl) rfl rfl rfl ?_)
    try any_goals (refine W_move (d := 44) wk_stepper rfl rfl rfl ?_)
    try any_goals (refine W_move (d := 45) wk_stepper rfl rfl rfl ?_)
    try any_goals (refine W_ct (d := 46) wk_stepper (ct_l19Best t f (ix B (i : Int)) xs p hR) rfl rfl rfl (by kernel_rfl) ?_)
    try any_goals (refine W_move (d := 37) wk_stepper rfl rfl rfl ?_)
    try any_goals (refine W_extract (d := 47) wk_stepper rfl rfl rfl rfl ?_)
    try any_goals (refine W_extract (d := 48) wk_stepper rfl rfl rfl rfl ?_)
    try any_goals (refine W_assign (d := 16) wk_stepper rfl rfl rfl ?_)
    try any_goals (refine Wk_assign (by kernel_rfl) (by kernel_rfl) ?_)
    try any_goals (refine W_assign (d := 17) (sq_stepper hC) rfl rfl rfl ?_)
    try any_goals ((refine Sq_nil ?_; try refine G_then ?_))
    try any_goals ((refine H_seq ?_; try refine H_reg ?_))
    try any_goals (refine W_move (d := 49) (sq_stepper hC) rfl rfl rfl ?_)
    try any_goals (refine W_move (d := 50) (sq_stepper hC) rfl rfl rfl ?_)
    try any_goals (refine W_ct (d := 51) (sq_stepper hC) (ct_l19Union (unS t f B xs p i) (dB t f xs p (ix B (i : Int))) (by omega) (by omega)) rfl rfl rfl (by kernel_rfl) ?_)
    try any_goals (refine W_assign (d := 13) (sq_stepper hC) rfl rfl rfl ?_)
    try any_goals ((refine Sq_nil ?_; try refine G_then ?_))
    try any_goals (refine H_reg ?_)
    try any_goals (refine W_move (d := 52) (sq_stepper hC) rfl rfl rfl ?_)
    try any_goals (refine W_move (d := 53) (sq_stepper hC) rfl rfl rfl ?_)
    try any_goals (refine W_ar (d := 54) (sq_stepper hC) rfl rfl rfl rfl rfl (by first | omega | (dsimp only; omega)) ?_)
    try any_goals (refine W_assign (d := 14) (sq_stepper hC) rfl rfl rfl ?_)
    try any_goals (refine Sq_nil ?_)
    repeat (any_goals (first | refine G_exit_then ?_ | refine G_exit_here ?_ | refine G_exit_far rfl ?_ | refine G_normal_block ?_))
    try any_goals (refine G_then ?_)
    try any_goals (refine H_reg ?_)
    try any_goals (refine W_move (d := 35) (sq_stepper hC) rfl rfl rfl ?_)
    try any_goals (refine W_ar (d := 36) (sq_stepper hC) rfl rfl rfl rfl rfl (by first | omega | (dsimp only; omega)) ?_)
    try any_goals (refine W_assign (d := 15) (sq_stepper hC) rfl rfl rfl ?_)
    try any_goals (refine Sq_nil ?_)
    try any_goals (refine G_again (i + 1) (by omega) (by omega) (by repeat (first | exact trivial | refine ⟨⟨_, rfl, fun _ _ _ h => h⟩, ?_⟩ | refine ⟨⟨_, rfl, fun v w _ h => (show v = _ from h).trans (congrArg (Value.int .i64) (by first | omega | (dsimp only; omega)))⟩, ?_⟩)) (fun _ h => h))
    try any_goals (refine Wt.out 4 ?_)
    repeat (any_goals (first | refine G_exit_then ?_ | refine G_exit_here ?_ | refine G_exit_far rfl ?_ | refine G_normal_block ?_))
    try any_goals (refine G_then ?_)
    try any_goals ((refine H_seq ?_; try refine H_reg ?_))
    try any_goals (refine W_move (d := 55) (sq_stepper hC) rfl rfl rfl ?_)
    try any_goals (refine W_move (d := 56) (sq_stepper hC) rfl rfl rfl ?_)
    try any_goals (refine W_assign (d := 10) (sq_stepper hC) rfl rfl rfl ?_)
    try any_goals (refine W_assign (d := 11) (sq_stepper hC) rfl rfl rfl ?_)
    try any_goals (refine W_assign (d := 12) (sq_stepper hC) rfl rfl rfl ?_)
    try any_goals ((refine Sq_nil ?_; try refine G_then ?_))
    try any_goals (refine H_ret ?_)
    repeat (any_goals (first | refine G_ret_then ?_ | refine G_ret_block ?_))
    all_goals first
      | exact R3 rfl (fun _ h => h) rfl rfl rfl (fun v w' _ hv => by rw [bsR_n (bsOk_n2 (by omega))]; exact hv) (fun v w' _ hv => by rw [bsS_n (bsOk_n2 (by omega))]; exact hv) (fun v w' _ hv => by rw [bsOk_n2 (by omega)]; exact hv)
      | (have e : i = B.length := by omega
         subst e
         have hy := bsOk_y h hp
         exact R3 rfl (fun _ h => h) rfl rfl rfl (fun v w' _ hv => by rw [bsR_y hy]; exact hv) (fun v w' _ hv => by rw [bsS_y hy]; exact hv) (fun v w' _ hv => by rw [hy]; exact hv))
      | trace_state
end Go.Proofs.YtanlaggnhocjhaaGreat
