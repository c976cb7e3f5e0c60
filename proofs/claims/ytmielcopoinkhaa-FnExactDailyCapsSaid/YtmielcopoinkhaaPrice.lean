/- Prices by zones: copied, counted, compared, checked; the fare of a ride. -/
import Derived.Test.YtmielcopoinkhaaBase
namespace Go.Proofs.Ytmielcopoinkhaa
set_option linter.unusedSimpArgs false
set_option linter.unusedVariables false
open Go.RowKit Go.ChangeShapes Go.WideShapes Go.ChangeAt Go.Deep
structure Prc where
  Z : List Int
  D : Int
  W : Int
def pPrc (e : Option TypeId) : Phi Prc := pCat Prc.Z (pS e pI) (pCat Prc.D pI (pCat Prc.W pI pNil))
theorem ct_toPrices (b : Prc) (hb : b.Z.length ≤ 1048576) : CT Try.prog 9 [.inr (uA (pPrc none) b)] (.inr (uA (pPrc (some 3)) b)) := by
  refine CT_of1V Try.func9 rfl rfl rfl (fun w v0 hv0 => ?_)
  obtain ⟨cs0, rfl, hz0⟩ := hv0
  refine H_weakenC (C' := Cls w [] fun _ => True) (fun w' h => cls_ext w' h) ?_
  have hF : UpC (fun _ : World => True) := upC_true
  try any_goals (first | (refine H_seq ?_; try refine H_reg ?_) | refine H_reg ?_)
  try any_goals (refine Sq_boxC (d := 1) hF rfl rfl (fun g1 hlo => ?_))
  try any_goals (refine Sq_allocC (d := 2) (n := 3) hF (by kernel_rfl) rfl (fun g2 cs2 hl2 hlo2 => ?_); obtain ⟨c2x0, c2x1, c2x2, rfl⟩ := len3 hl2)
  try any_goals (first | (refine Sq_nil ?_; try refine G_then ?_) | refine G_then ?_)
  try any_goals (first | (refine H_seq ?_; try refine H_reg ?_) | refine H_reg ?_)
  try any_goals (refine Sq_allocC (d := 3) (n := 3) hF (by kernel_rfl) rfl (fun g3 cs3 hl3 hlo3 => ?_); obtain ⟨c3x0, c3x1, c3x2, rfl⟩ := len3 hl3)
  try any_goals (first | (refine Sq_nil ?_; try refine G_then ?_) | refine G_then ?_)
  try any_goals (first | (refine H_seq ?_; try refine H_reg ?_) | refine H_reg ?_)
  try any_goals (first | refine W_fieldG (d := 4) (sq_stepper (upC_cls hF)) (Proj.head _ _ _) (by kernel_rfl) rfl rfl rfl ?_ | refine W_fieldRC (d := 4) 2 (sq_stepper (upC_cls hF)) (Proj.head _ _ _) hz0 (by kernel_rfl) rfl rfl rfl rfl ?_ | refine W_fieldC (d := 4) (sq_stepper (upC_cls hF)) (off := 0) (by kernel_rfl) rfl rfl rfl ?_)
  try any_goals (first | refine W_loadS (d := 5) (sq_stepper (upC_cls hF)) (by kernel_rfl) rfl rfl rfl ?_ | refine W_loadAC (d := 5) 0 (sq_stepper (upC_cls hF)) (vs := [v0x0, v1x0, v2x0]) (by kernel_rfl) rfl rfl rfl rfl rfl (zadd fun j u h => h) ?_)
  try any_goals (refine W_ct (d := 6) (sq_stepper (upC_cls hF)) (ct_toIntS _ hb) rfl rfl rfl (by kernel_rfl) ?_)
  try any_goals (first | refine W_fieldG (d := 7) (sq_stepper (upC_cls hF)) (Proj.head _ _ _) (by kernel_rfl) rfl rfl rfl ?_ | refine W_fieldRC (d := 7) 2 (sq_stepper (upC_cls hF)) (Proj.head _ _ _) hz0 (by kernel_rfl) rfl rfl rfl rfl ?_ | refine W_fieldC (d := 7) (sq_stepper (upC_cls hF)) (off := 0) (by kernel_rfl) rfl rfl rfl ?_)
  try any_goals (refine Sq_storeE 0 (Ψ := (pS (some 3) pI)) (by kernel_rfl) rfl rfl elem_S rfl (Nat.le_of_ble_eq_true rfl) (by repeat (first | exact av_nil | exact av_I | exact av_B | exact av_Str | refine av_S (by decide) ?_ | refine av_cat ?_ ?_ | refine av_Q (by decide) ?_)) (by repeat (first | exact stF_true | exact stF_phi (by repeat (first | exact av_nil | exact av_I | exact av_B | exact av_Str | refine av_S (by decide) ?_ | refine av_cat ?_ ?_ | refine av_Q (by decide) ?_)) | refine stF_and ?_ ?_)) hF (fun vs hl hF => ?_); obtain ⟨v0x0, rfl⟩ := len1 hl)
  try any_goals (first | (refine Sq_nil ?_; try refine G_then ?_) | refine G_then ?_)
  try any_goals (first | (refine H_seq ?_; try refine H_reg ?_) | refine H_reg ?_)
  try any_goals (first | refine W_fieldG (d := 8) (sq_stepper (upC_cls hF)) (Proj.tail _ _ (Proj.head _ _ _)) (by kernel_rfl) rfl rfl rfl ?_ | refine W_fieldRC (d := 8) 2 (sq_stepper (upC_cls hF)) (Proj.tail _ _ (Proj.head _ _ _)) hz0 (by kernel_rfl) rfl rfl rfl rfl ?_ | refine W_fieldC (d := 8) (sq_stepper (upC_cls hF)) (off := 1) (by kernel_rfl) rfl rfl rfl ?_)
  try any_goals (first | refine W_loadI (d := 9) (sq_stepper (upC_cls hF)) (by kernel_rfl) rfl rfl rfl ?_ | refine W_loadAC (d := 9) 0 (sq_stepper (upC_cls hF)) (vs := [v0x0, v1x0, v2x0]) (by kernel_rfl) rfl rfl rfl rfl rfl (zadd fun j u h => h) ?_)
  try any_goals (first | refine W_fieldG (d := 10) (sq_stepper (upC_cls hF)) (Proj.tail _ _ (Proj.head _ _ _)) (by kernel_rfl) rfl rfl rfl ?_ | refine W_fieldRC (d := 10) 2 (sq_stepper (upC_cls hF)) (Proj.tail _ _ (Proj.head _ _ _)) hz0 (by kernel_rfl) rfl rfl rfl rfl ?_ | refine W_fieldC (d := 10) (sq_stepper (upC_cls hF)) (off := 1) (by kernel_rfl) rfl rfl rfl ?_)
  try any_goals (refine Sq_storeE 0 (Ψ := pI) (by kernel_rfl) rfl rfl elem_I rfl (Nat.le_of_ble_eq_true rfl) (by repeat (first | exact av_nil | exact av_I | exact av_B | exact av_Str | refine av_S (by decide) ?_ | refine av_cat ?_ ?_ | refine av_Q (by decide) ?_)) (by repeat (first | exact stF_true | exact stF_phi (by repeat (first | exact av_nil | exact av_I | exact av_B | exact av_Str | refine av_S (by decide) ?_ | refine av_cat ?_ ?_ | refine av_Q (by decide) ?_)) | refine stF_and ?_ ?_)) hF (fun vs hl hF => ?_); obtain ⟨v1x0, rfl⟩ := len1 hl)
  try any_goals (first | (refine Sq_nil ?_; try refine G_then ?_) | refine G_then ?_)
  try any_goals (first | (refine H_seq ?_; try refine H_reg ?_) | refine H_reg ?_)
  try any_goals (first | refine W_fieldG (d := 11) (sq_stepper (upC_cls hF)) (Proj.tail _ _ (Proj.tail _ _ (Proj.head _ _ _))) (by kernel_rfl) rfl rfl rfl ?_ | refine W_fieldRC (d := 11) 2 (sq_stepper (upC_cls hF)) (Proj.tail _ _ (Proj.tail _ _ (Proj.head _ _ _))) hz0 (by kernel_rfl) rfl rfl rfl rfl ?_ | refine W_fieldC (d := 11) (sq_stepper (upC_cls hF)) (off := 2) (by kernel_rfl) rfl rfl rfl ?_)
  try any_goals (first | refine W_loadI (d := 12) (sq_stepper (upC_cls hF)) (by kernel_rfl) rfl rfl rfl ?_ | refine W_loadAC (d := 12) 0 (sq_stepper (upC_cls hF)) (vs := [v0x0, v1x0, v2x0]) (by kernel_rfl) rfl rfl rfl rfl rfl (zadd fun j u h => h) ?_)
  try any_goals (first | refine W_fieldG (d := 13) (sq_stepper (upC_cls hF)) (Proj.tail _ _ (Proj.tail _ _ (Proj.head _ _ _))) (by kernel_rfl) rfl rfl rfl ?_ | refine W_fieldRC (d := 13) 2 (sq_stepper (upC_cls hF)) (Proj.tail _ _ (Proj.tail _ _ (Proj.head _ _ _))) hz0 (by kernel_rfl) rfl rfl rfl rfl ?_ | refine W_fieldC (d := 13) (sq_stepper (upC_cls hF)) (off := 2) (by kernel_rfl) rfl rfl rfl ?_)
  try any_goals (refine Sq_storeE 0 (Ψ := pI) (by kernel_rfl) rfl rfl elem_I rfl (Nat.le_of_ble_eq_true rfl) (by repeat (first | exact av_nil | exact av_I | exact av_B | exact av_Str | refine av_S (by decide) ?_ | refine av_cat ?_ ?_ | refine av_Q (by decide) ?_)) (by repeat (first | exact stF_true | exact stF_phi (by repeat (first | exact av_nil | exact av_I | exact av_B | exact av_Str | refine av_S (by decide) ?_ | refine av_cat ?_ ?_ | refine av_Q (by decide) ?_)) | refine stF_and ?_ ?_)) hF (fun vs hl hF => ?_); obtain ⟨v2x0, rfl⟩ := len1 hl)
  try any_goals (first | (refine Sq_nil ?_; try refine G_then ?_) | refine G_then ?_)
  try any_goals (first | (refine H_seq ?_; try refine H_reg ?_) | refine H_reg ?_)
  try any_goals (first | refine W_loadA (d := 14) (sq_stepper (upC_cls hF)) (by kernel_rfl) rfl rfl rfl ?_ | refine W_loadAC (d := 14) 0 (sq_stepper (upC_cls hF)) (vs := [v0x0, v1x0, v2x0]) (by kernel_rfl) rfl rfl rfl rfl rfl (zadd fun j u h => h) ?_)
  try any_goals (refine Sq_storeAg 1 (vs := [v0x0, v1x0, v2x0]) (by kernel_rfl) rfl rfl rfl (fun w' h => Phi.one (pPrc (some 3)) b _ w' ⟨[v0x0], [v1x0, v2x0], rfl, h.1.1.2, [v1x0], [v2x0], rfl, h.1.2, [v2x0], [], rfl, h.2, rfl⟩) rfl (Nat.le_of_ble_eq_true rfl) (by repeat (first | exact stF_true | exact stF_phi (by repeat (first | exact av_nil | exact av_I | exact av_B | exact av_Str | refine av_S (by decide) ?_ | refine av_cat ?_ ?_ | refine av_Q (by decide) ?_)) | refine stF_and ?_ ?_)) ?_)
  try any_goals (first | (refine Sq_nil ?_; try refine G_then ?_) | refine G_then ?_)
  try any_goals (refine H_ret ?_)
  repeat (any_goals (first | refine G_ret_then ?_ | refine G_ret_block ?_))
  all_goals exact RcellC 1 rfl (by kernel_rfl) rfl rfl rfl (fun w' h => ⟨[v0x0, v1x0, v2x0], rfl, ⟨[v0x0], [v1x0, v2x0], rfl, h.fct.1.1.2, [v1x0], [v2x0], rfl, h.fct.1.2, [v2x0], [], rfl, h.fct.2, rfl⟩⟩)
theorem ct_eqPrices (b : Prc) : CT Try.prog 13 [.inr (uA (pPrc (some 3)) b), .inr (uA (pPrc (some 3)) b)] (.inl (.bool true)) := by
  refine CT_of Try.func13 rfl rfl rfl (fun w => ?_)
  have hC := upC_ext w
  try any_goals (first | (refine H_seq ?_; try refine H_reg ?_) | refine H_reg ?_)
  try any_goals (refine W_boxA (d := 2) (sq_stepper hC) rfl rfl rfl ?_)
  try any_goals (refine W_boxA (d := 3) (sq_stepper hC) rfl rfl rfl ?_)
  try any_goals (refine W_assign (d := 4) (sq_stepper hC) rfl rfl rfl ?_)
  try any_goals (first | (refine Sq_nil ?_; try refine G_then ?_) | refine G_then ?_)
  try any_goals (refine H_seq ?_)
  try any_goals (first | (refine H_seq ?_; try refine H_reg ?_) | refine H_reg ?_)
  try any_goals (first | refine W_fieldG (d := 5) (sq_stepper hC) (Proj.head _ _ _) (by kernel_rfl) rfl rfl rfl ?_ | refine W_fieldC (d := 5) (sq_stepper hC) (off := 0) (by kernel_rfl) rfl rfl rfl ?_)
  try any_goals (refine W_loadS (d := 6) (sq_stepper hC) (by kernel_rfl) rfl rfl rfl ?_)
  try any_goals (first | refine W_fieldG (d := 7) (sq_stepper hC) (Proj.head _ _ _) (by kernel_rfl) rfl rfl rfl ?_ | refine W_fieldC (d := 7) (sq_stepper hC) (off := 0) (by kernel_rfl) rfl rfl rfl ?_)
  try any_goals (refine W_loadS (d := 8) (sq_stepper hC) (by kernel_rfl) rfl rfl rfl ?_)
  try any_goals (refine W_ct (d := 9) (sq_stepper hC) (ct_eqIntS _) rfl rfl rfl (by kernel_rfl) ?_)
  try any_goals (refine W_not (d := 10) (sq_stepper hC) rfl rfl rfl ?_)
  try any_goals (first | (refine Sq_nil ?_; try refine G_then ?_) | refine G_then ?_)
  try any_goals (first | refine H_condT rfl ?_ | refine H_condF rfl ?_ | (refine H_cond _ rfl (fun hq => ?_) (fun hq => ?_) <;> (try simp only [hqs, reduceCtorEq, decide_true, Bool.not_true, beq_self_eq_true] at hq)))
  try any_goals (first | (refine H_seq ?_; try refine H_reg ?_) | refine H_reg ?_)
  try any_goals (refine W_assign (d := 4) (sq_stepper hC) rfl rfl rfl ?_)
  try any_goals (first | (refine Sq_nil ?_; try refine G_then ?_) | refine G_then ?_)
  try any_goals (refine H_ret ?_)
  repeat (any_goals (first | refine G_ret_then ?_ | refine G_ret_block ?_))
  try any_goals (refine H_skip ?_)
  try any_goals (refine G_then ?_)
  try any_goals (refine H_seq ?_)
  try any_goals (first | (refine H_seq ?_; try refine H_reg ?_) | refine H_reg ?_)
  try any_goals (first | refine W_fieldG (d := 11) (sq_stepper hC) (Proj.tail _ _ (Proj.head _ _ _)) (by kernel_rfl) rfl rfl rfl ?_ | refine W_fieldC (d := 11) (sq_stepper hC) (off := 1) (by kernel_rfl) rfl rfl rfl ?_)
  try any_goals (refine W_loadI (d := 12) (sq_stepper hC) (by kernel_rfl) rfl rfl rfl ?_)
  try any_goals (first | refine W_fieldG (d := 13) (sq_stepper hC) (Proj.tail _ _ (Proj.head _ _ _)) (by kernel_rfl) rfl rfl rfl ?_ | refine W_fieldC (d := 13) (sq_stepper hC) (off := 1) (by kernel_rfl) rfl rfl rfl ?_)
  try any_goals (refine W_loadI (d := 14) (sq_stepper hC) (by kernel_rfl) rfl rfl rfl ?_)
  try any_goals (first | refine W_cmp (d := 15) (sq_stepper hC) rfl rfl rfl rfl rfl ?_ | refine W_neqStr (d := 15) (sq_stepper hC) rfl rfl rfl rfl ?_ | refine W_neqB (d := 15) (sq_stepper hC) rfl rfl Try.underlying4 rfl rfl ?_)
  try any_goals (first | (refine Sq_nil ?_; try refine G_then ?_) | refine G_then ?_)
  try any_goals (first | refine H_condT rfl ?_ | refine H_condF rfl ?_ | (refine H_cond _ rfl (fun hq => ?_) (fun hq => ?_) <;> (try simp only [hqs, reduceCtorEq, decide_true, Bool.not_true, beq_self_eq_true] at hq)))
  try any_goals (first | (refine H_seq ?_; try refine H_reg ?_) | refine H_reg ?_)
  try any_goals (refine W_assign (d := 4) (sq_stepper hC) rfl rfl rfl ?_)
  try any_goals (first | (refine Sq_nil ?_; try refine G_then ?_) | refine G_then ?_)
  try any_goals (refine H_ret ?_)
  repeat (any_goals (first | refine G_ret_then ?_ | refine G_ret_block ?_))
  try any_goals (refine H_skip ?_)
  try any_goals (refine G_then ?_)
  try any_goals (refine H_seq ?_)
  try any_goals (first | (refine H_seq ?_; try refine H_reg ?_) | refine H_reg ?_)
  try any_goals (first | refine W_fieldG (d := 16) (sq_stepper hC) (Proj.tail _ _ (Proj.tail _ _ (Proj.head _ _ _))) (by kernel_rfl) rfl rfl rfl ?_ | refine W_fieldC (d := 16) (sq_stepper hC) (off := 2) (by kernel_rfl) rfl rfl rfl ?_)
  try any_goals (refine W_loadI (d := 17) (sq_stepper hC) (by kernel_rfl) rfl rfl rfl ?_)
  try any_goals (first | refine W_fieldG (d := 18) (sq_stepper hC) (Proj.tail _ _ (Proj.tail _ _ (Proj.head _ _ _))) (by kernel_rfl) rfl rfl rfl ?_ | refine W_fieldC (d := 18) (sq_stepper hC) (off := 2) (by kernel_rfl) rfl rfl rfl ?_)
  try any_goals (refine W_loadI (d := 19) (sq_stepper hC) (by kernel_rfl) rfl rfl rfl ?_)
  try any_goals (first | refine W_cmp (d := 20) (sq_stepper hC) rfl rfl rfl rfl rfl ?_ | refine W_neqStr (d := 20) (sq_stepper hC) rfl rfl rfl rfl ?_ | refine W_neqB (d := 20) (sq_stepper hC) rfl rfl Try.underlying4 rfl rfl ?_)
  try any_goals (first | (refine Sq_nil ?_; try refine G_then ?_) | refine G_then ?_)
  try any_goals (first | refine H_condT rfl ?_ | refine H_condF rfl ?_ | (refine H_cond _ rfl (fun hq => ?_) (fun hq => ?_) <;> (try simp only [hqs, reduceCtorEq, decide_true, Bool.not_true, beq_self_eq_true] at hq)))
  try any_goals (first | (refine H_seq ?_; try refine H_reg ?_) | refine H_reg ?_)
  try any_goals (refine W_assign (d := 4) (sq_stepper hC) rfl rfl rfl ?_)
  try any_goals (first | (refine Sq_nil ?_; try refine G_then ?_) | refine G_then ?_)
  try any_goals (refine H_ret ?_)
  repeat (any_goals (first | refine G_ret_then ?_ | refine G_ret_block ?_))
  try any_goals (refine H_skip ?_)
  try any_goals (refine G_then ?_)
  try any_goals (first | (refine H_seq ?_; try refine H_reg ?_) | refine H_reg ?_)
  try any_goals (refine W_assign (d := 4) (sq_stepper hC) rfl rfl rfl ?_)
  try any_goals (first | (refine Sq_nil ?_; try refine G_then ?_) | refine G_then ?_)
  try any_goals (refine H_ret ?_)
  repeat (any_goals (first | refine G_ret_then ?_ | refine G_ret_block ?_))
  all_goals exact R1v rfl (fun _ h => h) rfl rfl
theorem rd_Prices : Rd Try.prog (pPrc none) 24 := fun H enc W fuel cs x h => by
  obtain ⟨hl, hf⟩ := trod_fields Try.underlying24 h
  have hl' : cs.length = 3 := hl.trans (by kernel_rfl)
  obtain ⟨c0, c1, c2, rfl⟩ := len3 hl'
  obtain ⟨_, _, t0⟩ := fld (k := 1) (hf 0 _ rfl) (by kernel_rfl) rfl
  obtain ⟨z0, e0⟩ := (Rd.slice Try.underlying22 (by kernel_rfl) (Nat.le_of_ble_eq_true rfl) (Rd.int Try.underlying3)) _ _ _ _ _ _ t0
  obtain ⟨_, _, t1⟩ := fld (k := 1) (hf 1 _ rfl) (by kernel_rfl) rfl
  obtain ⟨z1, e1⟩ := (Rd.int Try.underlying3) _ _ _ _ _ _ t1
  obtain ⟨_, _, t2⟩ := fld (k := 1) (hf 2 _ rfl) (by kernel_rfl) rfl
  obtain ⟨z2, e2⟩ := (Rd.int Try.underlying3) _ _ _ _ _ _ t2
  exact ⟨⟨z0, z1, z2⟩, [c0], [c1, c2], rfl, e0, [c1], [c2], rfl, e1, [c2], [], rfl, e2, rfl⟩
def szPr (b : Prc) (l : Int) : Int := if szN b.Z.length l < 0 then -1 else szN b.Z.length l
theorem szPr_pos {b : Prc} {l : Int} (h : ¬ szPr b l < 0) : (b.Z.length : Int) ≤ l ∧ szPr b l = l - b.Z.length := by
  unfold szPr at h ⊢
  split at h <;> rename_i h1
  · omega
  · rw [if_neg h1]; exact szN_pos h1
theorem ct_szPrices (b : Prc) (l : Int) (hl : 0 ≤ l ∧ l ≤ 1048576) : CT Try.prog 6 [.inr (uA (pPrc none) b), .inl (.int .i64 l)] (.inl (.int .i64 (szPr b l))) := by
  refine CT_of Try.func6 rfl rfl rfl (fun w => ?_)
  have hC := upC_ext w
  try any_goals (first | (refine H_seq ?_; try refine H_reg ?_) | refine H_reg ?_)
  try any_goals (refine W_boxA (d := 2) (sq_stepper hC) rfl rfl rfl ?_)
  try any_goals (refine W_assign (d := 4) (sq_stepper hC) rfl rfl rfl ?_)
  try any_goals (first | (refine Sq_nil ?_; try refine G_then ?_) | refine G_then ?_)
  try any_goals (first | (refine H_seq ?_; try refine H_reg ?_) | refine H_reg ?_)
  try any_goals (first | refine W_fieldG (d := 5) (sq_stepper hC) (Proj.head _ _ _) (by kernel_rfl) rfl rfl rfl ?_ | refine W_fieldC (d := 5) (sq_stepper hC) (off := 0) (by kernel_rfl) rfl rfl rfl ?_)
  try any_goals (refine W_loadS (d := 6) (sq_stepper hC) (by kernel_rfl) rfl rfl rfl ?_)
  try any_goals (refine W_move (d := 7) (sq_stepper hC) rfl rfl rfl ?_)
  try any_goals (refine W_ct (d := 8) (sq_stepper hC) (ct_szIntS _ _ (by omega)) rfl rfl rfl (by kernel_rfl) ?_)
  try any_goals (refine W_assign (d := 1) (sq_stepper hC) rfl rfl rfl ?_)
  try any_goals (first | (refine Sq_nil ?_; try refine G_then ?_) | refine G_then ?_)
  try any_goals (refine H_seq ?_)
  try any_goals (first | (refine H_seq ?_; try refine H_reg ?_) | refine H_reg ?_)
  try any_goals (refine W_move (d := 9) (sq_stepper hC) rfl rfl rfl ?_)
  try any_goals (first | refine W_cmp (d := 10) (sq_stepper hC) rfl rfl rfl rfl rfl ?_ | refine W_strcmp (d := 10) (sq_stepper hC) rfl rfl rfl rfl rfl ?_)
  try any_goals (first | (refine Sq_nil ?_; try refine G_then ?_) | refine G_then ?_)
  try any_goals (first | refine H_condT rfl ?_ | refine H_condF rfl ?_ | (refine H_cond _ rfl (fun hq => ?_) (fun hq => ?_) <;> (try simp only [hqs, reduceCtorEq] at hq)))
  try any_goals (first | (refine H_seq ?_; try refine H_reg ?_) | refine H_reg ?_)
  try any_goals (refine W_assign (d := 4) (sq_stepper hC) rfl rfl rfl ?_)
  try any_goals (first | (refine Sq_nil ?_; try refine G_then ?_) | refine G_then ?_)
  try any_goals (refine H_ret ?_)
  repeat (any_goals (first | refine G_ret_then ?_ | refine G_ret_block ?_))
  try any_goals (refine H_skip ?_)
  try any_goals (refine G_then ?_)
  try any_goals (first | (refine H_seq ?_; try refine H_reg ?_) | refine H_reg ?_)
  try any_goals (refine W_move (d := 11) (sq_stepper hC) rfl rfl rfl ?_)
  try any_goals (refine W_assign (d := 4) (sq_stepper hC) rfl rfl rfl ?_)
  try any_goals (first | (refine Sq_nil ?_; try refine G_then ?_) | refine G_then ?_)
  try any_goals (refine H_ret ?_)
  repeat (any_goals (first | refine G_ret_then ?_ | refine G_ret_block ?_))
  all_goals refine R1v rfl (fun _ h => h) rfl ?_
  all_goals (congr 1; unfold szPr; split <;> omega)
def zAt (z : List Int) (i : Int) : Bool := inB (ix z i) 0 10000 && (decide (i = 0) || decide (ix z (i - 1) ≤ ix z i))
theorem zAt_t (z : List Int) (i : Int) : (zAt z i = true) = ((0 ≤ ix z i ∧ ix z i ≤ 10000) ∧ (i = 0 ∨ ix z (i - 1) ≤ ix z i)) := by simp only [zAt, Bool.and_eq_true, inB_t, Bool.or_eq_true, decide_eq_true_eq]
def prOk (b : Prc) : Bool := inB b.Z.length 1 9 && inB b.D 0 10000 && inB b.W 0 10000 && (List.range b.Z.length).all fun j => zAt b.Z j
theorem prOk_t (b : Prc) : (prOk b = true) ↔ ((1 ≤ (b.Z.length : Int) ∧ (b.Z.length : Int) ≤ 9) ∧ (0 ≤ b.D ∧ b.D ≤ 10000) ∧ (0 ≤ b.W ∧ b.W ≤ 10000) ∧ ∀ j : Nat, (j : Int) < b.Z.length → zAt b.Z j = true) := by
  simp [prOk, inB, List.all_eq_true, and_assoc]
theorem prOk_f1 {b : Prc} (h : ¬ ((1 ≤ (b.Z.length : Int) ∧ (b.Z.length : Int) ≤ 9) ∧ (0 ≤ b.D ∧ b.D ≤ 10000) ∧ (0 ≤ b.W ∧ b.W ≤ 10000))) : prOk b = false := by
  cases hl : prOk b with
  | false => rfl
  | true => have := (prOk_t b).1 hl; exact absurd ⟨this.1, this.2.1, this.2.2.1⟩ h
theorem prOk_f2 {b : Prc} {i : Int} (h0 : 0 ≤ i) (h1 : i < b.Z.length) (h : ¬ zAt b.Z i = true) : prOk b = false := by
  cases hl : prOk b with
  | false => rfl
  | true =>
    have := ((prOk_t b).1 hl).2.2.2 i.toNat (by omega)
    rw [show ((i.toNat : Nat) : Int) = i by omega] at this
    exact absurd this h
theorem CT_lenP {f : FuncId} {ps : List Pr} {R : Pr} {e : Option TypeId} {b : Prc} (h : b.Z.length ≤ 9223372036854775807 → CT Try.prog f (.inr (uA (pPrc e) b) :: ps) R) : CT Try.prog f (.inr (uA (pPrc e) b) :: ps) R :=
  CT_fact (fun vs w hk => by
    match vs, hk with
    | v :: vs, hk =>
      obtain ⟨cs, hv, c1, c2, hc, ⟨u, hu, A, n, c, hv', hn, hc', hm, _⟩, _⟩ := (hk.1 : IsA (pPrc e) b v w)
      simp only [maxLen] at hm
      omega) h
theorem ct_l21Prices {e : Option TypeId} (b : Prc) : CT Try.prog 29 [.inr (uA (pPrc e) b)] (.inl (.bool (prOk b))) := by
  refine CT_lenP fun hlen => ?_
  refine CT_of Try.func29 rfl rfl rfl (fun w => ?_)
  have hC := upC_ext w
  try any_goals (first | (refine H_seq ?_; try refine H_reg ?_) | refine H_reg ?_)
  try any_goals (refine W_boxA (d := 1) (sq_stepper hC) rfl rfl rfl ?_)
  try any_goals (refine W_assign (d := 2) (sq_stepper hC) rfl rfl rfl ?_)
  try any_goals (first | (refine Sq_nil ?_; try refine G_then ?_) | refine G_then ?_)
  try any_goals (refine H_seq ?_)
  try any_goals (first | (refine H_seq ?_; try refine H_reg ?_) | refine H_reg ?_)
  try any_goals (refine W_assign (d := 3) (sq_stepper hC) rfl rfl rfl ?_)
  try any_goals (first | (refine Sq_nil ?_; try refine G_then ?_) | refine G_then ?_)
  try any_goals (refine H_block ?_)
  try any_goals ((refine H_loop (fun i : Int => 0 ≤ i ∧ i ≤ b.Z.length ∧ ∀ j : Nat, (j : Int) < i → zAt b.Z j = true) (fun i => [(1, .inr (uP (pPrc e) b)), (3, .inl (.int .i64 i))]) (fun _ => Ext w) (fun i => (b.Z.length - i).toNat) 0 ⟨by omega, by omega, fun j hj => by omega⟩ (fun a w h => h.sub (by repeat (first | exact trivial | refine ⟨⟨_, rfl, fun _ _ _ h => h⟩, ?_⟩ | refine ⟨⟨_, rfl, fun v w _ h => (show v = _ from h).trans (congrArg (Value.int .i64) (by first | omega | (dsimp only; omega)))⟩, ?_⟩)) fun _ h => h) (fun i hi => ?_); obtain ⟨h0, h1, hall⟩ := hi))
  try any_goals (refine H_seq ?_)
  try any_goals (first | (refine H_seq ?_; try refine H_reg ?_) | refine H_reg ?_)
  try any_goals (refine W_move (d := 4) (sq_stepper hC) rfl rfl rfl ?_)
  try any_goals (first | refine W_fieldG (d := 5) (sq_stepper hC) (Proj.head _ _ _) (by kernel_rfl) rfl rfl rfl ?_ | refine W_fieldC (d := 5) (sq_stepper hC) (off := 0) (by kernel_rfl) rfl rfl rfl ?_)
  try any_goals (refine W_loadS (d := 6) (sq_stepper hC) (by kernel_rfl) rfl rfl rfl ?_)
  try any_goals (first | refine W_len (d := 7) (sq_stepper hC) (by kernel_rfl) rfl rfl rfl ?_ | refine W_lenStr (d := 7) (sq_stepper hC) (by kernel_rfl) rfl rfl rfl ?_)
  try any_goals (first | refine W_cmp (d := 8) (sq_stepper hC) rfl rfl rfl rfl rfl ?_ | refine W_strcmp (d := 8) (sq_stepper hC) rfl rfl rfl rfl rfl ?_)
  try any_goals (first | (refine Sq_nil ?_; try refine G_then ?_) | refine G_then ?_)
  try any_goals (first | refine H_condT rfl ?_ | refine H_condF rfl ?_ | (refine H_cond _ rfl (fun hq => ?_) (fun hq => ?_) <;> (try simp only [hqs, reduceCtorEq] at hq)))
  try any_goals (refine H_skip ?_)
  try any_goals (refine H_exit ?_)
  repeat (any_goals (first | refine G_exit_then ?_ | refine G_exit_here ?_ | refine G_exit_far rfl ?_))
  try any_goals (refine G_then ?_)
  try any_goals (refine H_seq ?_)
  try any_goals (refine H_block ?_)
  try any_goals (refine H_seq ?_)
  try any_goals (refine H_draw' (by kernel_rfl) hC ?_)
  try any_goals (first | refine W_fieldG (d := 11) wk_stepper (Proj.head _ _ _) (by kernel_rfl) rfl rfl rfl ?_ | refine W_fieldC (d := 11) wk_stepper (off := 0) (by kernel_rfl) rfl rfl rfl ?_)
  try any_goals (refine W_loadS (d := 12) wk_stepper (by kernel_rfl) rfl rfl rfl ?_)
  try any_goals (refine W_move (d := 13) wk_stepper rfl rfl rfl ?_)
  try any_goals (refine W_index (d := 14) wk_stepper (by kernel_rfl) rfl rfl rfl rfl (by first | omega | (dsimp only; omega)) ?_)
  try any_goals (refine W_loadI (d := 15) wk_stepper (by kernel_rfl) rfl rfl rfl ?_)
  try any_goals (refine W_ct (d := 16) wk_stepper (ct_l1In _ _ _) rfl rfl rfl (by kernel_rfl) ?_)
  try any_goals (refine W_not (d := 17) wk_stepper rfl rfl rfl ?_)
  try any_goals (refine W_move (d := 18) wk_stepper rfl rfl rfl ?_)
  try any_goals (first | refine W_gT (d := 19) wk_stepper _ rfl rfl ?_ | refine W_gF (d := 19) wk_stepper _ rfl rfl ?_ | (refine W_splitG wk_stepper _ rfl _ rfl (fun hq => ?_) (fun hq => ?_) <;> ((try simp only [hqs, reduceCtorEq] at hq); try (have hq' := hq; clear hq))))
  try any_goals (first | refine W_skip (d := 19) wk_stepper rfl rfl ?_ | refine W_move (d := 19) wk_stepper rfl rfl rfl ?_)
  try any_goals (first | refine W_skip (d := 20) wk_stepper rfl rfl ?_ | refine W_cmp (d := 20) wk_stepper rfl rfl rfl rfl rfl ?_ | refine W_strcmp (d := 20) wk_stepper rfl rfl rfl rfl rfl ?_)
  try any_goals (first | refine W_skip (d := 21) wk_stepper rfl rfl ?_ | refine W_move (d := 21) wk_stepper rfl rfl rfl ?_)
  try any_goals (first | refine W_gT (d := 22) wk_stepper _ rfl rfl ?_ | refine W_gF (d := 22) wk_stepper _ rfl rfl ?_ | (refine W_splitG wk_stepper _ rfl _ rfl (fun hq => ?_) (fun hq => ?_) <;> ((try simp only [hqs, reduceCtorEq] at hq); try (have hq' := hq; clear hq))))
  try any_goals (first | refine W_skip (d := 22) wk_stepper rfl rfl ?_ | refine W_fieldG (d := 22) wk_stepper (Proj.head _ _ _) (by kernel_rfl) rfl rfl rfl ?_ | refine W_fieldC (d := 22) wk_stepper (off := 0) (by kernel_rfl) rfl rfl rfl ?_)
  try any_goals (first | refine W_skip (d := 23) wk_stepper rfl rfl ?_ | refine W_loadS (d := 23) wk_stepper (by kernel_rfl) rfl rfl rfl ?_)
  try any_goals (first | refine W_skip (d := 24) wk_stepper rfl rfl ?_ | refine W_move (d := 24) wk_stepper rfl rfl rfl ?_)
  try any_goals (first | refine W_skip (d := 25) wk_stepper rfl rfl ?_ | refine W_ar (d := 25) wk_stepper rfl rfl rfl rfl rfl (by first | omega | (dsimp only; omega)) ?_)
  try any_goals (first | refine W_skip (d := 26) wk_stepper rfl rfl ?_ | refine W_index (d := 26) wk_stepper (by kernel_rfl) rfl rfl rfl rfl (by first | omega | (dsimp only; omega)) ?_)
  try any_goals (first | refine W_skip (d := 27) wk_stepper rfl rfl ?_ | refine W_loadI (d := 27) wk_stepper (by kernel_rfl) rfl rfl rfl ?_)
  try any_goals (first | refine W_skip (d := 28) wk_stepper rfl rfl ?_ | refine W_fieldG (d := 28) wk_stepper (Proj.head _ _ _) (by kernel_rfl) rfl rfl rfl ?_ | refine W_fieldC (d := 28) wk_stepper (off := 0) (by kernel_rfl) rfl rfl rfl ?_)
  try any_goals (first | refine W_skip (d := 29) wk_stepper rfl rfl ?_ | refine W_loadS (d := 29) wk_stepper (by kernel_rfl) rfl rfl rfl ?_)
  try any_goals (first | refine W_skip (d := 30) wk_stepper rfl rfl ?_ | refine W_move (d := 30) wk_stepper rfl rfl rfl ?_)
  try any_goals (first | refine W_skip (d := 31) wk_stepper rfl rfl ?_ | refine W_index (d := 31) wk_stepper (by kernel_rfl) rfl rfl rfl rfl (by first | omega | (dsimp only; omega)) ?_)
  try any_goals (first | refine W_skip (d := 32) wk_stepper rfl rfl ?_ | refine W_loadI (d := 32) wk_stepper (by kernel_rfl) rfl rfl rfl ?_)
  try any_goals (first | refine W_skip (d := 33) wk_stepper rfl rfl ?_ | refine W_cmp (d := 33) wk_stepper rfl rfl rfl rfl rfl ?_ | refine W_strcmp (d := 33) wk_stepper rfl rfl rfl rfl rfl ?_)
  try any_goals (first | refine W_skip (d := 34) wk_stepper rfl rfl ?_ | refine W_pickT (d := 34) wk_stepper rfl rfl rfl rfl ?_ | refine W_pickF (d := 34) wk_stepper rfl rfl rfl rfl ?_)
  try any_goals (first | refine W_pickT (d := 35) wk_stepper rfl rfl rfl rfl ?_ | refine W_pickF (d := 35) wk_stepper rfl rfl rfl rfl ?_)
  try any_goals (refine Wk_end (by kernel_rfl) (by kernel_rfl) ?_)
  try any_goals (refine G_then ?_)
  try any_goals (first | refine H_condT rfl ?_ | refine H_condF rfl ?_ | (refine H_cond _ rfl (fun hq => ?_) (fun hq => ?_) <;> (try simp only [hqs, reduceCtorEq] at hq)))
  try any_goals (first | (refine H_seq ?_; try refine H_reg ?_) | refine H_reg ?_)
  try any_goals (refine W_assign (d := 2) (sq_stepper hC) rfl rfl rfl ?_)
  try any_goals (first | (refine Sq_nil ?_; try refine G_then ?_) | refine G_then ?_)
  try any_goals (refine H_ret ?_)
  repeat (any_goals (first | refine G_ret_then ?_ | refine G_ret_block ?_))
  try any_goals (refine H_skip ?_)
  repeat (any_goals (first | refine G_exit_then ?_ | refine G_exit_here ?_ | refine G_exit_far rfl ?_ | refine G_normal_block ?_))
  try any_goals (refine G_then ?_)
  try any_goals (refine H_reg ?_)
  try any_goals (refine W_move (d := 9) (sq_stepper hC) rfl rfl rfl ?_)
  try any_goals (refine W_ar (d := 10) (sq_stepper hC) rfl rfl rfl rfl rfl (by first | omega | (dsimp only; omega)) ?_)
  try any_goals (refine W_assign (d := 3) (sq_stepper hC) rfl rfl rfl ?_)
  try any_goals (refine Sq_nil ?_)
  try any_goals (refine G_again (i + 1) ⟨by omega, by omega, ?_⟩ (by omega) (by repeat (first | exact trivial | refine ⟨⟨_, rfl, fun _ _ _ h => h⟩, ?_⟩ | refine ⟨⟨_, rfl, fun v w _ h => (show v = _ from h).trans (congrArg (Value.int .i64) (by first | omega | (dsimp only; omega)))⟩, ?_⟩)) (fun _ h => h))
  repeat (any_goals (first | refine G_exit_then ?_ | refine G_exit_here ?_ | refine G_exit_far rfl ?_ | refine G_normal_block ?_))
  try any_goals (refine G_then ?_)
  try any_goals (first | (refine H_seq ?_; try refine H_reg ?_) | refine H_reg ?_)
  try any_goals (first | refine W_fieldG (d := 36) (sq_stepper hC) (Proj.head _ _ _) (by kernel_rfl) rfl rfl rfl ?_ | refine W_fieldC (d := 36) (sq_stepper hC) (off := 0) (by kernel_rfl) rfl rfl rfl ?_)
  try any_goals (refine W_loadS (d := 37) (sq_stepper hC) (by kernel_rfl) rfl rfl rfl ?_)
  try any_goals (first | refine W_len (d := 38) (sq_stepper hC) (by kernel_rfl) rfl rfl rfl ?_ | refine W_lenStr (d := 38) (sq_stepper hC) (by kernel_rfl) rfl rfl rfl ?_)
  try any_goals (refine W_ct (d := 39) (sq_stepper hC) (ct_l1In _ _ _) rfl rfl rfl (by kernel_rfl) ?_)
  try any_goals (refine W_move (d := 40) (sq_stepper hC) rfl rfl rfl ?_)
  try any_goals (first | refine W_gT (d := 41) (sq_stepper hC) _ rfl rfl ?_ | refine W_gF (d := 41) (sq_stepper hC) _ rfl rfl ?_ | (refine W_splitG (sq_stepper hC) _ rfl _ rfl (fun hq => ?_) (fun hq => ?_) <;> ((try simp only [hqs, reduceCtorEq] at hq); try (have hq' := hq; clear hq))))
  try any_goals (first | refine W_skip (d := 41) (sq_stepper hC) rfl rfl ?_ | refine W_fieldG (d := 41) (sq_stepper hC) (Proj.tail _ _ (Proj.head _ _ _)) (by kernel_rfl) rfl rfl rfl ?_ | refine W_fieldC (d := 41) (sq_stepper hC) (off := 1) (by kernel_rfl) rfl rfl rfl ?_)
  try any_goals (first | refine W_skip (d := 42) (sq_stepper hC) rfl rfl ?_ | refine W_loadI (d := 42) (sq_stepper hC) (by kernel_rfl) rfl rfl rfl ?_)
  try any_goals (first | refine W_skip (d := 43) (sq_stepper hC) rfl rfl ?_ | refine W_ct (d := 43) (sq_stepper hC) (ct_l1In _ _ _) rfl rfl rfl (by kernel_rfl) ?_)
  try any_goals (first | refine W_pickT (d := 44) (sq_stepper hC) rfl rfl rfl rfl ?_ | refine W_pickF (d := 44) (sq_stepper hC) rfl rfl rfl rfl ?_)
  try any_goals (refine W_move (d := 45) (sq_stepper hC) rfl rfl rfl ?_)
  try any_goals (first | refine W_gT (d := 46) (sq_stepper hC) _ rfl rfl ?_ | refine W_gF (d := 46) (sq_stepper hC) _ rfl rfl ?_ | (refine W_splitG (sq_stepper hC) _ rfl _ rfl (fun hq => ?_) (fun hq => ?_) <;> ((try simp only [hqs, reduceCtorEq] at hq); try (have hq' := hq; clear hq))))
  try any_goals (first | refine W_skip (d := 46) (sq_stepper hC) rfl rfl ?_ | refine W_fieldG (d := 46) (sq_stepper hC) (Proj.tail _ _ (Proj.tail _ _ (Proj.head _ _ _))) (by kernel_rfl) rfl rfl rfl ?_ | refine W_fieldC (d := 46) (sq_stepper hC) (off := 2) (by kernel_rfl) rfl rfl rfl ?_)
  try any_goals (first | refine W_skip (d := 47) (sq_stepper hC) rfl rfl ?_ | refine W_loadI (d := 47) (sq_stepper hC) (by kernel_rfl) rfl rfl rfl ?_)
  try any_goals (first | refine W_skip (d := 48) (sq_stepper hC) rfl rfl ?_ | refine W_ct (d := 48) (sq_stepper hC) (ct_l1In _ _ _) rfl rfl rfl (by kernel_rfl) ?_)
  try any_goals (first | refine W_pickT (d := 49) (sq_stepper hC) rfl rfl rfl rfl ?_ | refine W_pickF (d := 49) (sq_stepper hC) rfl rfl rfl rfl ?_)
  try any_goals (refine W_assign (d := 2) (sq_stepper hC) rfl rfl rfl ?_)
  try any_goals (first | (refine Sq_nil ?_; try refine G_then ?_) | refine G_then ?_)
  try any_goals (refine H_ret ?_)
  repeat (any_goals (first | refine G_ret_then ?_ | refine G_ret_block ?_))
  all_goals first
    | exact R1v rfl (fun _ h => h) rfl (congrArg Value.bool (prOk_f2 h0 (by omega) (fun h => by rw [zAt_t] at h; omega)).symm)
    | exact R1v rfl (fun _ h => h) rfl (congrArg Value.bool (prOk_f1 (by omega)).symm)
    | exact all_step (p := zAt b.Z) h0 hall (by rw [zAt_t]; omega)
    | (refine R1v rfl (fun _ h => h) rfl (congrArg Value.bool ?_)
       cases hw : inB b.W 0 10000 with
       | true => rw [inB_t] at hw; exact ((prOk_t b).2 ⟨by omega, by omega, by omega, fun j hj => hall j (by omega)⟩).symm
       | false => rw [inB_f] at hw; exact (prOk_f1 (by omega)).symm)
theorem ct_isPrice (x : Int) : CT Try.prog 68 [.inl (.int .i64 x)] (.inl (.bool (inB x 0 10000))) := by
  refine CT_of Try.func68 rfl rfl rfl (fun w => ?_)
  have hC := upC_ext w
  try any_goals (first | (refine H_seq ?_; try refine H_reg ?_) | refine H_reg ?_)
  try any_goals (refine W_assign (d := 2) (sq_stepper hC) rfl rfl rfl ?_)
  try any_goals (first | (refine Sq_nil ?_; try refine G_then ?_) | refine G_then ?_)
  try any_goals (first | (refine H_seq ?_; try refine H_reg ?_) | refine H_reg ?_)
  try any_goals (refine W_move (d := 3) (sq_stepper hC) rfl rfl rfl ?_)
  try any_goals (refine W_ct (d := 4) (sq_stepper hC) (ct_within _ _ _) rfl rfl rfl (by kernel_rfl) ?_)
  try any_goals (refine W_assign (d := 2) (sq_stepper hC) rfl rfl rfl ?_)
  try any_goals (first | (refine Sq_nil ?_; try refine G_then ?_) | refine G_then ?_)
  try any_goals (refine H_ret ?_)
  repeat (any_goals (first | refine G_ret_then ?_ | refine G_ret_block ?_))
  all_goals exact R1v rfl (fun _ h => h) rfl rfl
theorem sorted_ends {xs : List Int} (h : sorted xs = true) : ∀ j : Nat, (j : Int) < xs.length → ix xs 0 ≤ ix xs j ∧ ix xs j ≤ ix xs (xs.length - 1) := by
  have h' := (sorted_t xs).1 h
  have up : ∀ (d j : Nat), ((j + d : Nat) : Int) < xs.length → ix xs j ≤ ix xs ((j + d : Nat) : Int) := by
    intro d
    induction d with
    | zero => intro j hj; exact Int.le_refl _
    | succ d ih =>
      intro j hj
      have h1 := ih j (by omega)
      have h2 := h' (j + (d + 1)) (by omega) hj
      rw [show (((j + (d + 1) : Nat) : Int) - 1) = ((j + d : Nat) : Int) by omega] at h2
      omega
  intro j hj
  have h1 := up j 0 (by omega)
  have h2 := up (xs.length - 1 - j) j (by omega)
  rw [show (((j + (xs.length - 1 - j) : Nat) : Int)) = (xs.length : Int) - 1 by omega] at h2
  rw [show (((0 + j : Nat) : Int)) = (j : Int) by omega] at h1
  exact ⟨h1, h2⟩
theorem pr_sorted {b : Prc} (h : prOk b = true) : sorted b.Z = true := (sorted_t b.Z).2 fun j h0 h1 => by
  have := ((prOk_t b).1 h).2.2.2 j h1
  rw [zAt_t] at this
  omega
theorem pr_yes {b : Prc} (h1 : 1 ≤ (b.Z.length : Int) ∧ (b.Z.length : Int) ≤ 9) (h2 : 0 ≤ b.D ∧ b.D ≤ 10000) (h3 : 0 ≤ b.W ∧ b.W ≤ 10000) (hs : sorted b.Z = true) (h4 : 0 ≤ ix b.Z 0) (h5 : ix b.Z (b.Z.length - 1) ≤ 10000) : prOk b = true :=
  (prOk_t b).2 ⟨h1, h2, h3, fun j hj => by
    have e := sorted_ends hs j hj
    have s := (sorted_t b.Z).1 hs j
    rw [zAt_t]
    by_cases z : (j : Int) = 0
    · exact ⟨by omega, .inl z⟩
    · exact ⟨by omega, .inr (s (by omega) hj)⟩⟩
theorem pr_ends {b : Prc} (h : prOk b = true) : (0 ≤ ix b.Z 0 ∧ ix b.Z 0 ≤ 10000) ∧ (0 ≤ ix b.Z (b.Z.length - 1) ∧ ix b.Z (b.Z.length - 1) ≤ 10000) := by
  have h1 := (prOk_t b).1 h
  have a := h1.2.2.2 0 (by omega)
  have c := h1.2.2.2 (b.Z.length - 1) (by omega)
  rw [zAt_t] at a c
  rw [show (((b.Z.length - 1 : Nat) : Int)) = (b.Z.length : Int) - 1 by omega] at c
  exact ⟨a.1, c.1⟩
theorem pr_no {b : Prc} (h : ¬ (((1 ≤ (b.Z.length : Int) ∧ (b.Z.length : Int) ≤ 9) ∧ (0 ≤ b.D ∧ b.D ≤ 10000) ∧ (0 ≤ b.W ∧ b.W ≤ 10000)) ∧ sorted b.Z = true ∧ (0 ≤ ix b.Z 0 ∧ ix b.Z 0 ≤ 10000) ∧ (0 ≤ ix b.Z (b.Z.length - 1) ∧ ix b.Z (b.Z.length - 1) ≤ 10000))) : prOk b = false := by
  cases hl : prOk b with
  | false => rfl
  | true =>
    have h1 := (prOk_t b).1 hl
    exact absurd ⟨⟨h1.1, h1.2.1, h1.2.2.1⟩, pr_sorted hl, pr_ends hl⟩ h
theorem ct_arePrices {e : Option TypeId} (b : Prc) : CT Try.prog 34 [.inr (uA (pPrc e) b)] (.inl (.bool (prOk b))) := by
  refine CT_lenP fun hlen => ?_
  refine CT_of Try.func34 rfl rfl rfl (fun w => ?_)
  have hC := upC_ext w
  try any_goals (first | (refine H_seq ?_; try refine H_reg ?_) | refine H_reg ?_)
  try any_goals (refine W_boxA (d := 1) (sq_stepper hC) rfl rfl rfl ?_)
  try any_goals (refine W_assign (d := 2) (sq_stepper hC) rfl rfl rfl ?_)
  try any_goals (first | (refine Sq_nil ?_; try refine G_then ?_) | refine G_then ?_)
  try any_goals (refine H_seq ?_)
  try any_goals (first | (refine H_seq ?_; try refine H_reg ?_) | refine H_reg ?_)
  try any_goals (first | refine W_fieldG (d := 3) (sq_stepper hC) (Proj.head _ _ _) (by kernel_rfl) rfl rfl rfl ?_ | refine W_fieldC (d := 3) (sq_stepper hC) (off := 0) (by kernel_rfl) rfl rfl rfl ?_)
  try any_goals (refine W_loadS (d := 4) (sq_stepper hC) (by kernel_rfl) rfl rfl rfl ?_)
  try any_goals (first | refine W_len (d := 5) (sq_stepper hC) (by kernel_rfl) rfl rfl rfl ?_ | refine W_lenStr (d := 5) (sq_stepper hC) (by kernel_rfl) rfl rfl rfl ?_)
  try any_goals (refine W_ct (d := 6) (sq_stepper hC) (ct_within _ _ _) rfl rfl rfl (by kernel_rfl) ?_)
  try any_goals (refine W_not (d := 7) (sq_stepper hC) rfl rfl rfl ?_)
  try any_goals (refine W_move (d := 8) (sq_stepper hC) rfl rfl rfl ?_)
  try any_goals (first | refine W_gT (d := 9) (sq_stepper hC) _ rfl rfl ?_ | refine W_gF (d := 9) (sq_stepper hC) _ rfl rfl ?_ | (refine W_splitG (sq_stepper hC) _ rfl _ rfl (fun hq => ?_) (fun hq => ?_) <;> ((try simp only [hqs, reduceCtorEq] at hq); try (have hq' := hq; clear hq))))
  try any_goals (first | refine W_skip (d := 9) (sq_stepper hC) rfl rfl ?_ | refine W_fieldG (d := 9) (sq_stepper hC) (Proj.head _ _ _) (by kernel_rfl) rfl rfl rfl ?_ | refine W_fieldC (d := 9) (sq_stepper hC) (off := 0) (by kernel_rfl) rfl rfl rfl ?_)
  try any_goals (first | refine W_skip (d := 10) (sq_stepper hC) rfl rfl ?_ | refine W_loadS (d := 10) (sq_stepper hC) (by kernel_rfl) rfl rfl rfl ?_)
  try any_goals (first | refine W_skip (d := 11) (sq_stepper hC) rfl rfl ?_ | refine W_ct (d := 11) (sq_stepper hC) (ct_IsSorted _) rfl rfl rfl (by kernel_rfl) ?_)
  try any_goals (first | refine W_skip (d := 12) (sq_stepper hC) rfl rfl ?_ | refine W_not (d := 12) (sq_stepper hC) rfl rfl rfl ?_)
  try any_goals (first | refine W_pickT (d := 13) (sq_stepper hC) rfl rfl rfl rfl ?_ | refine W_pickF (d := 13) (sq_stepper hC) rfl rfl rfl rfl ?_)
  try any_goals (refine W_move (d := 14) (sq_stepper hC) rfl rfl rfl ?_)
  try any_goals (first | refine W_gT (d := 15) (sq_stepper hC) _ rfl rfl ?_ | refine W_gF (d := 15) (sq_stepper hC) _ rfl rfl ?_ | (refine W_splitG (sq_stepper hC) _ rfl _ rfl (fun hq => ?_) (fun hq => ?_) <;> ((try simp only [hqs, reduceCtorEq] at hq); try (have hq' := hq; clear hq))))
  try any_goals (first | refine W_skip (d := 15) (sq_stepper hC) rfl rfl ?_ | refine W_fieldG (d := 15) (sq_stepper hC) (Proj.tail _ _ (Proj.head _ _ _)) (by kernel_rfl) rfl rfl rfl ?_ | refine W_fieldC (d := 15) (sq_stepper hC) (off := 1) (by kernel_rfl) rfl rfl rfl ?_)
  try any_goals (first | refine W_skip (d := 16) (sq_stepper hC) rfl rfl ?_ | refine W_loadI (d := 16) (sq_stepper hC) (by kernel_rfl) rfl rfl rfl ?_)
  try any_goals (first | refine W_skip (d := 17) (sq_stepper hC) rfl rfl ?_ | refine W_ct (d := 17) (sq_stepper hC) (ct_isPrice _) rfl rfl rfl (by kernel_rfl) ?_)
  try any_goals (first | refine W_skip (d := 18) (sq_stepper hC) rfl rfl ?_ | refine W_not (d := 18) (sq_stepper hC) rfl rfl rfl ?_)
  try any_goals (first | refine W_pickT (d := 19) (sq_stepper hC) rfl rfl rfl rfl ?_ | refine W_pickF (d := 19) (sq_stepper hC) rfl rfl rfl rfl ?_)
  try any_goals (refine W_move (d := 20) (sq_stepper hC) rfl rfl rfl ?_)
  try any_goals (first | refine W_gT (d := 21) (sq_stepper hC) _ rfl rfl ?_ | refine W_gF (d := 21) (sq_stepper hC) _ rfl rfl ?_ | (refine W_splitG (sq_stepper hC) _ rfl _ rfl (fun hq => ?_) (fun hq => ?_) <;> ((try simp only [hqs, reduceCtorEq] at hq); try (have hq' := hq; clear hq))))
  try any_goals (first | refine W_skip (d := 21) (sq_stepper hC) rfl rfl ?_ | refine W_fieldG (d := 21) (sq_stepper hC) (Proj.tail _ _ (Proj.tail _ _ (Proj.head _ _ _))) (by kernel_rfl) rfl rfl rfl ?_ | refine W_fieldC (d := 21) (sq_stepper hC) (off := 2) (by kernel_rfl) rfl rfl rfl ?_)
  try any_goals (first | refine W_skip (d := 22) (sq_stepper hC) rfl rfl ?_ | refine W_loadI (d := 22) (sq_stepper hC) (by kernel_rfl) rfl rfl rfl ?_)
  try any_goals (first | refine W_skip (d := 23) (sq_stepper hC) rfl rfl ?_ | refine W_ct (d := 23) (sq_stepper hC) (ct_isPrice _) rfl rfl rfl (by kernel_rfl) ?_)
  try any_goals (first | refine W_skip (d := 24) (sq_stepper hC) rfl rfl ?_ | refine W_not (d := 24) (sq_stepper hC) rfl rfl rfl ?_)
  try any_goals (first | refine W_pickT (d := 25) (sq_stepper hC) rfl rfl rfl rfl ?_ | refine W_pickF (d := 25) (sq_stepper hC) rfl rfl rfl rfl ?_)
  try any_goals (first | (refine Sq_nil ?_; try refine G_then ?_) | refine G_then ?_)
  try any_goals (first | refine H_condT rfl ?_ | refine H_condF rfl ?_ | (refine H_cond _ rfl (fun hq => ?_) (fun hq => ?_) <;> (try simp only [hqs, reduceCtorEq] at hq)))
  try any_goals (first | (refine H_seq ?_; try refine H_reg ?_) | refine H_reg ?_)
  try any_goals (refine W_assign (d := 2) (sq_stepper hC) rfl rfl rfl ?_)
  try any_goals (first | (refine Sq_nil ?_; try refine G_then ?_) | refine G_then ?_)
  try any_goals (refine H_ret ?_)
  repeat (any_goals (first | refine G_ret_then ?_ | refine G_ret_block ?_))
  try any_goals (refine H_skip ?_)
  try any_goals (refine G_then ?_)
  try any_goals (first | (refine H_seq ?_; try refine H_reg ?_) | refine H_reg ?_)
  try any_goals (first | refine W_fieldG (d := 26) (sq_stepper hC) (Proj.head _ _ _) (by kernel_rfl) rfl rfl rfl ?_ | refine W_fieldC (d := 26) (sq_stepper hC) (off := 0) (by kernel_rfl) rfl rfl rfl ?_)
  try any_goals (refine W_loadS (d := 27) (sq_stepper hC) (by kernel_rfl) rfl rfl rfl ?_)
  try any_goals (refine W_index (d := 28) (sq_stepper hC) (by kernel_rfl) rfl rfl rfl rfl (by first | omega | (dsimp only; omega)) ?_)
  try any_goals (refine W_loadI (d := 29) (sq_stepper hC) (by kernel_rfl) rfl rfl rfl ?_)
  try any_goals (refine W_ct (d := 30) (sq_stepper hC) (ct_isPrice _) rfl rfl rfl (by kernel_rfl) ?_)
  try any_goals (refine W_move (d := 31) (sq_stepper hC) rfl rfl rfl ?_)
  try any_goals (first | refine W_gT (d := 32) (sq_stepper hC) _ rfl rfl ?_ | refine W_gF (d := 32) (sq_stepper hC) _ rfl rfl ?_ | (refine W_splitG (sq_stepper hC) _ rfl _ rfl (fun hq => ?_) (fun hq => ?_) <;> ((try simp only [hqs, reduceCtorEq] at hq); try (have hq' := hq; clear hq))))
  try any_goals (first | refine W_skip (d := 32) (sq_stepper hC) rfl rfl ?_ | refine W_fieldG (d := 32) (sq_stepper hC) (Proj.head _ _ _) (by kernel_rfl) rfl rfl rfl ?_ | refine W_fieldC (d := 32) (sq_stepper hC) (off := 0) (by kernel_rfl) rfl rfl rfl ?_)
  try any_goals (first | refine W_skip (d := 33) (sq_stepper hC) rfl rfl ?_ | refine W_loadS (d := 33) (sq_stepper hC) (by kernel_rfl) rfl rfl rfl ?_)
  try any_goals (first | refine W_skip (d := 34) (sq_stepper hC) rfl rfl ?_ | refine W_fieldG (d := 34) (sq_stepper hC) (Proj.head _ _ _) (by kernel_rfl) rfl rfl rfl ?_ | refine W_fieldC (d := 34) (sq_stepper hC) (off := 0) (by kernel_rfl) rfl rfl rfl ?_)
  try any_goals (first | refine W_skip (d := 35) (sq_stepper hC) rfl rfl ?_ | refine W_loadS (d := 35) (sq_stepper hC) (by kernel_rfl) rfl rfl rfl ?_)
  try any_goals (first | refine W_skip (d := 36) (sq_stepper hC) rfl rfl ?_ | refine W_len (d := 36) (sq_stepper hC) (by kernel_rfl) rfl rfl rfl ?_ | refine W_lenStr (d := 36) (sq_stepper hC) (by kernel_rfl) rfl rfl rfl ?_)
  try any_goals (first | refine W_skip (d := 37) (sq_stepper hC) rfl rfl ?_ | refine W_ar (d := 37) (sq_stepper hC) rfl rfl rfl rfl rfl (by first | omega | (dsimp only; omega)) ?_)
  try any_goals (first | refine W_skip (d := 38) (sq_stepper hC) rfl rfl ?_ | refine W_index (d := 38) (sq_stepper hC) (by kernel_rfl) rfl rfl rfl rfl (by first | omega | (dsimp only; omega)) ?_)
  try any_goals (first | refine W_skip (d := 39) (sq_stepper hC) rfl rfl ?_ | refine W_loadI (d := 39) (sq_stepper hC) (by kernel_rfl) rfl rfl rfl ?_)
  try any_goals (first | refine W_skip (d := 40) (sq_stepper hC) rfl rfl ?_ | refine W_ct (d := 40) (sq_stepper hC) (ct_isPrice _) rfl rfl rfl (by kernel_rfl) ?_)
  try any_goals (first | refine W_pickT (d := 41) (sq_stepper hC) rfl rfl rfl rfl ?_ | refine W_pickF (d := 41) (sq_stepper hC) rfl rfl rfl rfl ?_)
  try any_goals (refine W_assign (d := 2) (sq_stepper hC) rfl rfl rfl ?_)
  try any_goals (first | (refine Sq_nil ?_; try refine G_then ?_) | refine G_then ?_)
  try any_goals (refine H_ret ?_)
  repeat (any_goals (first | refine G_ret_then ?_ | refine G_ret_block ?_))
  all_goals first
    | exact R1v rfl (fun _ h => h) rfl (congrArg Value.bool (pr_no (by rintro ⟨⟨h1, h2, h3⟩, h4, h5, h6⟩; first | omega | (refine absurd h4 (by simp only [Bool.not_eq_true]; assumption)))).symm)
    | (refine R1v rfl (fun _ h => h) rfl (congrArg Value.bool ?_)
       cases hw : inB (ix b.Z (b.Z.length - 1)) 0 10000 with
       | true => rw [inB_t] at hw; exact (pr_yes (by omega) (by omega) (by omega) (by assumption) (by omega) (by omega)).symm
       | false => rw [inB_f] at hw; exact (pr_no (by rintro ⟨⟨h1, h2, h3⟩, h4, h5, h6⟩; omega)).symm)
def fareOk (b : Prc) (c : Int) : Bool := prOk b && inB c 1 9
theorem fareOk_t (b : Prc) (c : Int) : (fareOk b c = true) = (prOk b = true ∧ 1 ≤ c ∧ c ≤ 9) := by simp only [fareOk, Bool.and_eq_true, inB_t]
def fare (b : Prc) (c : Int) : Int := if fareOk b c = true then ix b.Z (min c b.Z.length - 1) else 0
theorem fare_t {b : Prc} {c : Int} (h1 : prOk b = true) (h2 : 1 ≤ c ∧ c ≤ 9) : Value.int .i64 (ix b.Z (min c b.Z.length - 1)) = .int .i64 (fare b c) ∧ Value.bool true = .bool (fareOk b c) := by
  have : fareOk b c = true := by rw [fareOk_t]; exact ⟨h1, h2⟩
  simp [fare, this]
theorem fare_f {b : Prc} {c : Int} (h : ¬ (prOk b = true ∧ 1 ≤ c ∧ c ≤ 9)) : Value.int .i64 0 = .int .i64 (fare b c) ∧ Value.bool false = .bool (fareOk b c) := by
  have : fareOk b c = false := by
    cases hl : fareOk b c with
    | false => rfl
    | true => rw [fareOk_t] at hl; exact absurd hl h
  simp [fare, this]
end Go.Proofs.Ytmielcopoinkhaa
