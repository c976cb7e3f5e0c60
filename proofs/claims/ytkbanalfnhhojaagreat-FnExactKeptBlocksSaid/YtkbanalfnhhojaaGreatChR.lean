/- KeptBlocks, both ways. -/
import Derived.Test.YtkbanalfnhhojaaGreatKAll
import Derived.Test.YtkbanalfnhhojaaGreatMR
namespace Go.Proofs.YtkbanalfnhhojaaGreat
set_option linter.unusedSimpArgs false
set_option linter.unusedVariables false
open Go.RowKit Go.ChangeShapes Go.WideShapes Go.ChangeAt Go.Deep
theorem cg_keptBlocks {e1 e2 e3 : Option TypeId} (B : List (List Int)) (c : List Int) (hl : (B.length : Int) ≤ 1048576) (hr : ∀ i : Nat, (i : Int) < B.length → ((ix B i).length : Int) ≤ 1048576) : CTG Tryz.prog 50 [.inr (uS e1 (pS e2 pI) B), .inr (uS e3 pI c)] (fun s => .inr (uO s oR (keptA B c))) :=
  CTX_ctg (fun w => cx_keptBlocks B c hl hr w) (fun w s y v w' hs ⟨hS, hvl⟩ hR => ⟨hS.ext, by
    obtain rfl : v = _ := hR
    exact hS.oR (m := 0) (n := 1) hs rfl (by decide) (by rw [hvl, keptA_len]) (fun i hi => by
      rw [Nat.add_comm]
      exact rowsZ_get (by rw [keptA_len, hvl]) hi)⟩)
def kbR (t : Tab) (f : Flt) (B : List (List Int)) (c : List Int) : List (List Int) := if chOk t f B c then keptA B c else []
theorem kbR_y {t : Tab} {f : Flt} {B : List (List Int)} {c : List Int} (h : chOk t f B c = true) : kbR t f B c = keptA B c := by rw [kbR, h]; rfl
theorem kbR_n {t : Tab} {f : Flt} {B : List (List Int)} {c : List Int} (h : chOk t f B c = false) : kbR t f B c = [] := by rw [kbR, h]; rfl
theorem chOk_b {t : Tab} {f : Flt} {B : List (List Int)} {c : List Int} (h : chOk t f B c = true) : BlV t f B := by
  rw [chOk, Bool.and_eq_true] at h
  exact BlV.of h.1
theorem kbR_row {t : Tab} {f : Flt} {B : List (List Int)} {c : List Int} : (kbR t f B c).length ≤ 12 ∧ ∀ i : Nat, i < (kbR t f B c).length → ((ix (kbR t f B c) i).length : Int) ≤ 12 := by
  cases h : chOk t f B c
  · rw [kbR_n h]
    exact ⟨Nat.zero_le _, fun i hi => absurd hi (Nat.not_lt_zero _)⟩
  · have hk := chOk_b h
    have hln := hk.len
    rw [kbR_y h, keptA_len]
    refine ⟨by omega, fun i hi => ?_⟩
    rw [keptA_at (by omega)]
    exact hk.keptLen (by omega)
theorem ct_sKB {e1 e2 e3 : Option TypeId} (t : Tab) (f : Flt) (B : List (List Int)) (c : List Int) : CT Tryz.prog 12 [.inr (uA bTab t), .inr (uA bFlt f), .inr (uS e1 (pS e2 pI) B), .inr (uS e3 pI c)] (.inr (uT [.inr (uS (some 32) (pS (some 3) pI) (kbR t f B c)), .inl (.bool (chOk t f B c))])) := by
  refine CT_of Tryz.func12 rfl rfl rfl (fun w => ?_)
  have hC := upC_ext w
  have hA := ct_sPoss (e1 := e1) (e2 := e2) (e3 := e3) t f B c
  cases h : chOk t f B c
  · rw [h] at hA
    try any_goals (first | (refine H_seq ?_; try refine H_reg ?_) | refine H_reg ?_)
    try any_goals (refine W_boxA (d := 4) (sq_stepper hC) rfl rfl rfl ?_)
    try any_goals (refine W_boxA (d := 5) (sq_stepper hC) rfl rfl rfl ?_)
    try any_goals (refine W_assign (d := 8) (sq_stepper hC) rfl rfl rfl ?_)
    try any_goals (refine W_assign (d := 9) (sq_stepper hC) rfl rfl rfl ?_)
    try any_goals (first | (refine Sq_nil ?_; try refine G_then ?_) | refine G_then ?_)
    try any_goals (refine H_seq ?_)
    try any_goals (first | (refine H_seq ?_; try refine H_reg ?_) | refine H_reg ?_)
    try any_goals (refine W_loadA (d := 10) (sq_stepper hC) (by kernel_rfl) rfl rfl rfl ?_)
    try any_goals (refine W_loadA (d := 11) (sq_stepper hC) (by kernel_rfl) rfl rfl rfl ?_)
    try any_goals (refine W_move (d := 12) (sq_stepper hC) rfl rfl rfl ?_)
    try any_goals (refine W_move (d := 13) (sq_stepper hC) rfl rfl rfl ?_)
    try any_goals (refine W_ct (d := 14) (sq_stepper hC) (hA) rfl rfl rfl (by kernel_rfl) ?_)
    try any_goals (refine W_not (d := 15) (sq_stepper hC) rfl rfl rfl ?_)
    try any_goals (first | (refine Sq_nil ?_; try refine G_then ?_) | refine G_then ?_)
    try any_goals (first | refine H_condT rfl ?_ | refine H_condF rfl ?_ | (refine H_cond _ rfl (fun hq => ?_) (fun hq => ?_) <;> (try simp only [hqs, reduceCtorEq] at hq)))
    try any_goals (first | (refine H_seq ?_; try refine H_reg ?_) | refine H_reg ?_)
    try any_goals ((refine W_buildS (d := 16) (sq_stepper hC) [] (pS (some 3) pI) [] (e := 32) (by kernel_rfl) (by kernel_rfl) rfl rfl (by kernel_rfl) rfl rfl rfl trivial ?_))
    try any_goals (refine W_assign (d := 8) (sq_stepper hC) rfl rfl rfl ?_)
    try any_goals (refine W_assign (d := 9) (sq_stepper hC) rfl rfl rfl ?_)
    try any_goals (first | (refine Sq_nil ?_; try refine G_then ?_) | refine G_then ?_)
    try any_goals (refine H_ret ?_)
    repeat (any_goals (first | refine G_ret_then ?_ | refine G_ret_block ?_))
    try any_goals (refine H_skip ?_)
    try any_goals (refine G_then ?_)
    try any_goals (first | (refine H_seq ?_; try refine H_reg ?_) | refine H_reg ?_)
    try any_goals (refine W_move (d := 17) (sq_stepper hC) rfl rfl rfl ?_)
    try any_goals (refine W_move (d := 18) (sq_stepper hC) rfl rfl rfl ?_)
    try any_goals (fail)
    try any_goals (refine W_assign (d := 8) (sq_stepper hC) rfl rfl rfl ?_)
    try any_goals (refine W_assign (d := 9) (sq_stepper hC) rfl rfl rfl ?_)
    try any_goals (first | (refine Sq_nil ?_; try refine G_then ?_) | refine G_then ?_)
    try any_goals (refine H_ret ?_)
    repeat (any_goals (first | refine G_ret_then ?_ | refine G_ret_block ?_))
    all_goals first
      | exact R2 rfl (fun _ h => h) rfl rfl (fun v w' _ hv => by rw [kbR_n h]; exact hv) (fun v w' _ hv => hv)
      | trace_state
  · rw [h] at hA
    have hk := chOk_b h
    have hln := hk.len
    try any_goals (first | (refine H_seq ?_; try refine H_reg ?_) | refine H_reg ?_)
    try any_goals (refine W_boxA (d := 4) (sq_stepper hC) rfl rfl rfl ?_)
    try any_goals (refine W_boxA (d := 5) (sq_stepper hC) rfl rfl rfl ?_)
    try any_goals (refine W_assign (d := 8) (sq_stepper hC) rfl rfl rfl ?_)
    try any_goals (refine W_assign (d := 9) (sq_stepper hC) rfl rfl rfl ?_)
    try any_goals (first | (refine Sq_nil ?_; try refine G_then ?_) | refine G_then ?_)
    try any_goals (refine H_seq ?_)
    try any_goals (first | (refine H_seq ?_; try refine H_reg ?_) | refine H_reg ?_)
    try any_goals (refine W_loadA (d := 10) (sq_stepper hC) (by kernel_rfl) rfl rfl rfl ?_)
    try any_goals (refine W_loadA (d := 11) (sq_stepper hC) (by kernel_rfl) rfl rfl rfl ?_)
    try any_goals (refine W_move (d := 12) (sq_stepper hC) rfl rfl rfl ?_)
    try any_goals (refine W_move (d := 13) (sq_stepper hC) rfl rfl rfl ?_)
    try any_goals (refine W_ct (d := 14) (sq_stepper hC) (hA) rfl rfl rfl (by kernel_rfl) ?_)
    try any_goals (refine W_not (d := 15) (sq_stepper hC) rfl rfl rfl ?_)
    try any_goals (first | (refine Sq_nil ?_; try refine G_then ?_) | refine G_then ?_)
    try any_goals (first | refine H_condT rfl ?_ | refine H_condF rfl ?_ | (refine H_cond _ rfl (fun hq => ?_) (fun hq => ?_) <;> (try simp only [hqs, reduceCtorEq] at hq)))
    try any_goals (first | (refine H_seq ?_; try refine H_reg ?_) | refine H_reg ?_)
    try any_goals (refine W_buildS (d := 16) (sq_stepper hC) [] pI [] (e := 32) (by kernel_rfl) (by kernel_rfl) rfl rfl (by kernel_rfl) rfl rfl rfl trivial ?_)
    try any_goals (refine W_assign (d := 8) (sq_stepper hC) rfl rfl rfl ?_)
    try any_goals (refine W_assign (d := 9) (sq_stepper hC) rfl rfl rfl ?_)
    try any_goals (first | (refine Sq_nil ?_; try refine G_then ?_) | refine G_then ?_)
    try any_goals (refine H_ret ?_)
    repeat (any_goals (first | refine G_ret_then ?_ | refine G_ret_block ?_))
    try any_goals (refine H_skip ?_)
    try any_goals (refine G_then ?_)
    try any_goals (first | (refine H_seq ?_; try refine H_reg ?_) | refine H_reg ?_)
    try any_goals (refine W_move (d := 17) (sq_stepper hC) rfl rfl rfl ?_)
    try any_goals (refine W_move (d := 18) (sq_stepper hC) rfl rfl rfl ?_)
    try any_goals (refine W_ct (d := 19) (sq_stepper hC) (ct_l19KeptAll _ _ (by omega) (fun i hi => by have := hk.row i hi; omega)) rfl rfl rfl (by kernel_rfl) ?_)
    try any_goals (refine W_assign (d := 8) (sq_stepper hC) rfl rfl rfl ?_)
    try any_goals (refine W_assign (d := 9) (sq_stepper hC) rfl rfl rfl ?_)
    try any_goals (first | (refine Sq_nil ?_; try refine G_then ?_) | refine G_then ?_)
    try any_goals (refine H_ret ?_)
    repeat (any_goals (first | refine G_ret_then ?_ | refine G_ret_block ?_))
    all_goals first
      | exact R2 rfl (fun _ h => h) rfl rfl (fun v w' _ hv => by rw [kbR_y h]; exact hv) (fun v w' _ hv => hv)
      | trace_state
theorem cg_iKB {e1 e2 e3 : Option TypeId} (t : Tab) (f : Flt) (B : List (List Int)) (c : List Int) : CTG Tryz.prog 17 [.inr (uA bTab t), .inr (uA bFlt f), .inr (uS e1 (pS e2 pI) B), .inr (uS e3 pI c)] (fun s => .inr (uT [.inr (uO s oR (kbR t f B c)), .inl (.bool (chOk t f B c))])) := by
  refine CTG_of Tryz.func17 rfl rfl rfl (fun w s hs => ?_)
  have hC := upC_ext w
  have hA := ct_iPoss (e1 := e1) (e2 := e2) (e3 := e3) t f B c
  cases h : chOk t f B c
  · rw [h] at hA
    try any_goals (first | (refine H_seq ?_; try refine H_reg ?_) | refine H_reg ?_)
    try any_goals (refine W_boxA (d := 4) (sq_stepper hC) rfl rfl rfl ?_)
    try any_goals (refine W_boxA (d := 5) (sq_stepper hC) rfl rfl rfl ?_)
    try any_goals (refine W_assign (d := 8) (sq_stepper hC) rfl rfl rfl ?_)
    try any_goals (refine W_assign (d := 9) (sq_stepper hC) rfl rfl rfl ?_)
    try any_goals (first | (refine Sq_nil ?_; try refine G_then ?_) | refine G_then ?_)
    try any_goals (refine H_seq ?_)
    try any_goals (first | (refine H_seq ?_; try refine H_reg ?_) | refine H_reg ?_)
    try any_goals (refine W_loadA (d := 10) (sq_stepper hC) (by kernel_rfl) rfl rfl rfl ?_)
    try any_goals (refine W_loadA (d := 11) (sq_stepper hC) (by kernel_rfl) rfl rfl rfl ?_)
    try any_goals (refine W_move (d := 12) (sq_stepper hC) rfl rfl rfl ?_)
    try any_goals (refine W_move (d := 13) (sq_stepper hC) rfl rfl rfl ?_)
    try any_goals (refine W_ct (d := 14) (sq_stepper hC) (hA) rfl rfl rfl (by kernel_rfl) ?_)
    try any_goals (refine W_not (d := 15) (sq_stepper hC) rfl rfl rfl ?_)
    try any_goals (first | (refine Sq_nil ?_; try refine G_then ?_) | refine G_then ?_)
    try any_goals (first | refine H_condT rfl ?_ | refine H_condF rfl ?_ | (refine H_cond _ rfl (fun hq => ?_) (fun hq => ?_) <;> (try simp only [hqs, reduceCtorEq] at hq)))
    try any_goals (first | (refine H_seq ?_; try refine H_reg ?_) | refine H_reg ?_)
    try any_goals (refine W_assign (d := 8) (sq_stepper hC) rfl rfl rfl ?_)
    try any_goals (refine W_assign (d := 9) (sq_stepper hC) rfl rfl rfl ?_)
    try any_goals (first | (refine Sq_nil ?_; try refine G_then ?_) | refine G_then ?_)
    try any_goals (refine H_ret ?_)
    repeat (any_goals (first | refine G_ret_then ?_ | refine G_ret_block ?_))
    try any_goals (refine H_skip ?_)
    try any_goals (refine G_then ?_)
    try any_goals (first | (refine H_seq ?_; try refine H_reg ?_) | refine H_reg ?_)
    try any_goals (refine W_move (d := 16) (sq_stepper hC) rfl rfl rfl ?_)
    try any_goals (refine W_move (d := 17) (sq_stepper hC) rfl rfl rfl ?_)
    try any_goals (fail)
    try any_goals (refine W_assign (d := 8) (sq_stepper hC) rfl rfl rfl ?_)
    try any_goals (refine W_assign (d := 9) (sq_stepper hC) rfl rfl rfl ?_)
    try any_goals (first | (refine Sq_nil ?_; try refine G_then ?_) | refine G_then ?_)
    try any_goals (refine H_ret ?_)
    repeat (any_goals (first | refine G_ret_then ?_ | refine G_ret_block ?_))
    all_goals first
      | exact R2 rfl (fun _ h => h) rfl rfl (fun v w' _ hv => by rw [kbR_n h, show v = _ from hv]; exact nil_oR) (fun v w' _ hv => hv)
      | trace_state
  · rw [h] at hA
    have hk := chOk_b h
    have hln := hk.len
    try any_goals (first | (refine H_seq ?_; try refine H_reg ?_) | refine H_reg ?_)
    try any_goals (refine W_boxA (d := 4) (sq_stepper hC) rfl rfl rfl ?_)
    try any_goals (refine W_boxA (d := 5) (sq_stepper hC) rfl rfl rfl ?_)
    try any_goals (refine W_assign (d := 8) (sq_stepper hC) rfl rfl rfl ?_)
    try any_goals (refine W_assign (d := 9) (sq_stepper hC) rfl rfl rfl ?_)
    try any_goals (first | (refine Sq_nil ?_; try refine G_then ?_) | refine G_then ?_)
    try any_goals (refine H_seq ?_)
    try any_goals (first | (refine H_seq ?_; try refine H_reg ?_) | refine H_reg ?_)
    try any_goals (refine W_loadA (d := 10) (sq_stepper hC) (by kernel_rfl) rfl rfl rfl ?_)
    try any_goals (refine W_loadA (d := 11) (sq_stepper hC) (by kernel_rfl) rfl rfl rfl ?_)
    try any_goals (refine W_move (d := 12) (sq_stepper hC) rfl rfl rfl ?_)
    try any_goals (refine W_move (d := 13) (sq_stepper hC) rfl rfl rfl ?_)
    try any_goals (refine W_ct (d := 14) (sq_stepper hC) (hA) rfl rfl rfl (by kernel_rfl) ?_)
    try any_goals (refine W_not (d := 15) (sq_stepper hC) rfl rfl rfl ?_)
    try any_goals (first | (refine Sq_nil ?_; try refine G_then ?_) | refine G_then ?_)
    try any_goals (first | refine H_condT rfl ?_ | refine H_condF rfl ?_ | (refine H_cond _ rfl (fun hq => ?_) (fun hq => ?_) <;> (try simp only [hqs, reduceCtorEq] at hq)))
    try any_goals (first | (refine H_seq ?_; try refine H_reg ?_) | refine H_reg ?_)
    try any_goals (refine W_assign (d := 8) (sq_stepper hC) rfl rfl rfl ?_)
    try any_goals (refine W_assign (d := 9) (sq_stepper hC) rfl rfl rfl ?_)
    try any_goals (first | (refine Sq_nil ?_; try refine G_then ?_) | refine G_then ?_)
    try any_goals (refine H_ret ?_)
    repeat (any_goals (first | refine G_ret_then ?_ | refine G_ret_block ?_))
    try any_goals (refine H_skip ?_)
    try any_goals (refine G_then ?_)
    try any_goals (first | (refine H_seq ?_; try refine H_reg ?_) | refine H_reg ?_)
    try any_goals (refine W_move (d := 16) (sq_stepper hC) rfl rfl rfl ?_)
    try any_goals (refine W_move (d := 17) (sq_stepper hC) rfl rfl rfl ?_)
    try any_goals ((refine W_ctG (d := 18) (sq_stepper hC) (cg_keptBlocks B c (by omega) (fun i hi => by have := hk.row i hi; omega)) (fun w' h => Nat.le_trans hs h.size) rfl rfl rfl (by kernel_rfl) ?_))
    try any_goals (refine W_assign (d := 8) (sq_stepper hC) rfl rfl rfl ?_)
    try any_goals (refine W_assign (d := 9) (sq_stepper hC) rfl rfl rfl ?_)
    try any_goals (first | (refine Sq_nil ?_; try refine G_then ?_) | refine G_then ?_)
    try any_goals (refine H_ret ?_)
    repeat (any_goals (first | refine G_ret_then ?_ | refine G_ret_block ?_))
    all_goals first
      | exact R2 rfl (fun _ h => h) rfl rfl (fun v w' _ hv => by rw [kbR_y h]; exact hv) (fun v w' _ hv => hv)
      | trace_state
theorem ct_iKBt {e1 e2 e3 : Option TypeId} (t : Tab) (f : Flt) (B : List (List Int)) (c : List Int) : CT Tryz.prog 17 [.inr (uA bTab t), .inr (uA bFlt f), .inr (uS e1 (pS e2 pI) B), .inr (uS e3 pI c)] (.inr (uT [.inr (uS (some 32) (pS (some 3) pI) (kbR t f B c)), .inl (.bool (chOk t f B c))])) :=
  (cg_iKB t f B c).ct fun s v w ⟨vs, hv, hk⟩ => by
    match vs, hk with
    | [u0, u1], ⟨⟨S, hS, h0⟩, h1, h2⟩ => exact ⟨[u0, u1], hv, oR_isS h0, h1, h2⟩
end Go.Proofs.YtkbanalfnhhojaaGreat
