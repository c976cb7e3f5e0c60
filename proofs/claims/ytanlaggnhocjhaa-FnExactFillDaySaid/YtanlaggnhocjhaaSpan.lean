/- Lists of spans: copied, counted, compared, checked; the busiest time. -/
import Derived.Test.YtanlaggnhocjhaaLeg
namespace Go.Proofs.Ytanlaggnhocjhaa
set_option linter.unusedSimpArgs false
set_option linter.unusedVariables false
open Go.RowKit Go.ChangeShapes Go.WideShapes Go.ChangeAt Go.Deep
structure Spn where
  F : Int
  T : Int
instance : Inhabited Spn := ⟨⟨0, 0⟩⟩
def pSpn : Phi Spn := pCat Spn.F pI (pCat Spn.T pI pNil)
theorem ct_toSpan (b : Spn)  : CT Try.prog 61 [.inr (uA pSpn b)] (.inr (uA pSpn b)) := by
  refine CT_of1V Try.func61 rfl rfl rfl (fun w v0 hv0 => ?_)
  obtain ⟨cs0, rfl, hz0⟩ := hv0
  refine H_weakenC (C' := Cls w [] fun _ => True) (fun w' h => cls_ext w' h) ?_
  have hF : UpC (fun _ : World => True) := upC_true
  try any_goals (first | (refine H_seq ?_; try refine H_reg ?_) | refine H_reg ?_)
  try any_goals (refine Sq_boxC (d := 1) hF rfl rfl (fun g1 hlo => ?_))
  try any_goals (refine Sq_allocC (d := 2) (n := 2) hF (by kernel_rfl) rfl (fun g2 cs2 hl2 hlo2 => ?_); obtain ⟨c2x0, c2x1, rfl⟩ := len2 hl2)
  try any_goals (first | (refine Sq_nil ?_; try refine G_then ?_) | refine G_then ?_)
  try any_goals (first | (refine H_seq ?_; try refine H_reg ?_) | refine H_reg ?_)
  try any_goals (refine Sq_allocC (d := 3) (n := 2) hF (by kernel_rfl) rfl (fun g3 cs3 hl3 hlo3 => ?_); obtain ⟨c3x0, c3x1, rfl⟩ := len2 hl3)
  try any_goals (first | (refine Sq_nil ?_; try refine G_then ?_) | refine G_then ?_)
  try any_goals (first | (refine H_seq ?_; try refine H_reg ?_) | refine H_reg ?_)
  try any_goals (first | refine W_fieldG (d := 4) (sq_stepper (upC_cls hF)) (Proj.head _ _ _) (by kernel_rfl) rfl rfl rfl ?_ | refine W_fieldRC (d := 4) 2 (sq_stepper (upC_cls hF)) (Proj.head _ _ _) hz0 (by kernel_rfl) rfl rfl rfl rfl ?_ | refine W_fieldC (d := 4) (sq_stepper (upC_cls hF)) (off := 0) (by kernel_rfl) rfl rfl rfl ?_)
  try any_goals (first | refine W_loadI (d := 5) (sq_stepper (upC_cls hF)) (by kernel_rfl) rfl rfl rfl ?_ | refine W_loadAC (d := 5) 0 (sq_stepper (upC_cls hF)) (vs := [v0x0, v1x0]) (by kernel_rfl) rfl rfl rfl rfl rfl (zadd fun j u h => h) ?_)
  try any_goals (first | refine W_fieldG (d := 6) (sq_stepper (upC_cls hF)) (Proj.head _ _ _) (by kernel_rfl) rfl rfl rfl ?_ | refine W_fieldRC (d := 6) 2 (sq_stepper (upC_cls hF)) (Proj.head _ _ _) hz0 (by kernel_rfl) rfl rfl rfl rfl ?_ | refine W_fieldC (d := 6) (sq_stepper (upC_cls hF)) (off := 0) (by kernel_rfl) rfl rfl rfl ?_)
  try any_goals (refine Sq_storeE 0 (Ψ := pI) (by kernel_rfl) rfl rfl elem_I rfl (Nat.le_of_ble_eq_true rfl) (by repeat (first | exact av_nil | exact av_I | exact av_B | exact av_Str | refine av_S (by decide) ?_ | refine av_cat ?_ ?_ | refine av_Q (by decide) ?_)) (by repeat (first | exact stF_true | exact stF_phi (by repeat (first | exact av_nil | exact av_I | exact av_B | exact av_Str | refine av_S (by decide) ?_ | refine av_cat ?_ ?_ | refine av_Q (by decide) ?_)) | refine stF_and ?_ ?_)) hF (fun vs hl hF => ?_); obtain ⟨v0x0, rfl⟩ := len1 hl)
  try any_goals (first | (refine Sq_nil ?_; try refine G_then ?_) | refine G_then ?_)
  try any_goals (first | (refine H_seq ?_; try refine H_reg ?_) | refine H_reg ?_)
  try any_goals (first | refine W_fieldG (d := 7) (sq_stepper (upC_cls hF)) (Proj.tail _ _ (Proj.head _ _ _)) (by kernel_rfl) rfl rfl rfl ?_ | refine W_fieldRC (d := 7) 2 (sq_stepper (upC_cls hF)) (Proj.tail _ _ (Proj.head _ _ _)) hz0 (by kernel_rfl) rfl rfl rfl rfl ?_ | refine W_fieldC (d := 7) (sq_stepper (upC_cls hF)) (off := 1) (by kernel_rfl) rfl rfl rfl ?_)
  try any_goals (first | refine W_loadI (d := 8) (sq_stepper (upC_cls hF)) (by kernel_rfl) rfl rfl rfl ?_ | refine W_loadAC (d := 8) 0 (sq_stepper (upC_cls hF)) (vs := [v0x0, v1x0]) (by kernel_rfl) rfl rfl rfl rfl rfl (zadd fun j u h => h) ?_)
  try any_goals (first | refine W_fieldG (d := 9) (sq_stepper (upC_cls hF)) (Proj.tail _ _ (Proj.head _ _ _)) (by kernel_rfl) rfl rfl rfl ?_ | refine W_fieldRC (d := 9) 2 (sq_stepper (upC_cls hF)) (Proj.tail _ _ (Proj.head _ _ _)) hz0 (by kernel_rfl) rfl rfl rfl rfl ?_ | refine W_fieldC (d := 9) (sq_stepper (upC_cls hF)) (off := 1) (by kernel_rfl) rfl rfl rfl ?_)
  try any_goals (refine Sq_storeE 0 (Ψ := pI) (by kernel_rfl) rfl rfl elem_I rfl (Nat.le_of_ble_eq_true rfl) (by repeat (first | exact av_nil | exact av_I | exact av_B | exact av_Str | refine av_S (by decide) ?_ | refine av_cat ?_ ?_ | refine av_Q (by decide) ?_)) (by repeat (first | exact stF_true | exact stF_phi (by repeat (first | exact av_nil | exact av_I | exact av_B | exact av_Str | refine av_S (by decide) ?_ | refine av_cat ?_ ?_ | refine av_Q (by decide) ?_)) | refine stF_and ?_ ?_)) hF (fun vs hl hF => ?_); obtain ⟨v1x0, rfl⟩ := len1 hl)
  try any_goals (first | (refine Sq_nil ?_; try refine G_then ?_) | refine G_then ?_)
  try any_goals (first | (refine H_seq ?_; try refine H_reg ?_) | refine H_reg ?_)
  try any_goals (first | refine W_loadA (d := 10) (sq_stepper (upC_cls hF)) (by kernel_rfl) rfl rfl rfl ?_ | refine W_loadAC (d := 10) 0 (sq_stepper (upC_cls hF)) (vs := [v0x0, v1x0]) (by kernel_rfl) rfl rfl rfl rfl rfl (zadd fun j u h => h) ?_)
  try any_goals (refine Sq_storeAg 1 (vs := [v0x0, v1x0]) (by kernel_rfl) rfl rfl rfl (fun w' h => Phi.one pSpn b _ w' ⟨[v0x0], [v1x0], rfl, h.1.2, [v1x0], [], rfl, h.2, rfl⟩) rfl (Nat.le_of_ble_eq_true rfl) (by repeat (first | exact stF_true | exact stF_phi (by repeat (first | exact av_nil | exact av_I | exact av_B | exact av_Str | refine av_S (by decide) ?_ | refine av_cat ?_ ?_ | refine av_Q (by decide) ?_)) | refine stF_and ?_ ?_)) ?_)
  try any_goals (first | (refine Sq_nil ?_; try refine G_then ?_) | refine G_then ?_)
  try any_goals (refine H_ret ?_)
  repeat (any_goals (first | refine G_ret_then ?_ | refine G_ret_block ?_))
  all_goals exact RcellC 1 rfl (by kernel_rfl) rfl rfl rfl (fun w' h => ⟨[v0x0, v1x0], rfl, ⟨[v0x0], [v1x0], rfl, h.fct.1.2, [v1x0], [], rfl, h.fct.2, rfl⟩⟩)
def oSpanS : Ow (List Spn) := oF 71 pSpn (by repeat (first | exact flat_nil | exact flat_I | exact flat_B | refine flat_cat ?_ ?_))
theorem cg_toSpanS (xs : List Spn) (hn : xs.length ≤ 1048576)  : CTG Try.prog 27 [.inr (uS none pSpn xs)] (fun s => .inr (uO s oSpanS xs)) := by
  refine CTG_of1V Try.func27 rfl rfl rfl (fun w s v0 hs hv0 => ?_)
  have hC := upC_ext w
  have hE : ∀ w', Ext w w' → Ext w w' := fun _ h => h
  try any_goals (first | (refine H_seq ?_; try refine H_reg ?_) | refine H_reg ?_)
  try any_goals (first | refine W_assign (d := 2) (sq_stepper hC) rfl rfl rfl ?_ | (refine Sq_storeM (by kernel_rfl) rfl rfl rfl elem_A hg (⟨trivial, trivial, trivial⟩) hi.1 (ix_get hi.1 (by omega)) ?_; have hC : UpC (Made w g 71 pSpn xs (i + 1)) := upC_made; have hE : ∀ w', Made w g 71 pSpn xs (i + 1) w' → Ext w w' := fun _ h => h.1))
  try any_goals (first | (refine Sq_nil ?_; try refine G_then ?_) | refine G_then ?_)
  try any_goals (first | (refine H_seq ?_; try refine H_reg ?_) | refine H_reg ?_)
  try any_goals (first | refine W_moveR (d := 5) (sq_stepper hC) (U := uS none pSpn xs) (fun w' h => IsS.up (hE w' h) hv0) rfl rfl rfl ?_ | refine W_move (d := 5) (sq_stepper hC) rfl rfl rfl ?_ | (refine Sq_storeM (by kernel_rfl) rfl rfl rfl elem_A hg (⟨trivial, trivial, trivial⟩) hi.1 (ix_get hi.1 (by omega)) ?_; have hC : UpC (Made w g 71 pSpn xs (i + 1)) := upC_made; have hE : ∀ w', Made w g 71 pSpn xs (i + 1) w' → Ext w w' := fun _ h => h.1))
  try any_goals (first | refine W_len (d := 6) (sq_stepper hC) (by kernel_rfl) rfl rfl rfl ?_ | refine W_lenStr (d := 6) (sq_stepper hC) (by kernel_rfl) rfl rfl rfl ?_ | (refine Sq_storeM (by kernel_rfl) rfl rfl rfl elem_A hg (⟨trivial, trivial, trivial⟩) hi.1 (ix_get hi.1 (by omega)) ?_; have hC : UpC (Made w g 71 pSpn xs (i + 1)) := upC_made; have hE : ∀ w', Made w g 71 pSpn xs (i + 1) w' → Ext w w' := fun _ h => h.1))
  try any_goals (first | refine W_make (d := 7) (sq_stepper hC) rfl rfl rfl rfl ?_ | (refine Sq_make (d := 7) (e := 71) (k := Phi.k pSpn) hC (fun _ h => h) (by kernel_rfl) rfl rfl rfl ⟨by omega, by omega⟩ (fun g hg hgw hC hE => ?_)) | (refine Sq_storeM (by kernel_rfl) rfl rfl rfl elem_A hg (⟨trivial, trivial, trivial⟩) hi.1 (ix_get hi.1 (by omega)) ?_; have hC : UpC (Made w g 71 pSpn xs (i + 1)) := upC_made; have hE : ∀ w', Made w g 71 pSpn xs (i + 1) w' → Ext w w' := fun _ h => h.1))
  try any_goals (first | refine W_assign (d := 3) (sq_stepper hC) rfl rfl rfl ?_ | (refine Sq_storeM (by kernel_rfl) rfl rfl rfl elem_A hg (⟨trivial, trivial, trivial⟩) hi.1 (ix_get hi.1 (by omega)) ?_; have hC : UpC (Made w g 71 pSpn xs (i + 1)) := upC_made; have hE : ∀ w', Made w g 71 pSpn xs (i + 1) w' → Ext w w' := fun _ h => h.1))
  try any_goals (first | (refine Sq_nil ?_; try refine G_then ?_) | refine G_then ?_)
  try any_goals (refine H_seq ?_)
  try any_goals (first | (refine H_seq ?_; try refine H_reg ?_) | refine H_reg ?_)
  try any_goals (first | refine W_assign (d := 4) (sq_stepper hC) rfl rfl rfl ?_ | (refine Sq_storeM (by kernel_rfl) rfl rfl rfl elem_A hg (⟨trivial, trivial, trivial⟩) hi.1 (ix_get hi.1 (by omega)) ?_; have hC : UpC (Made w g 71 pSpn xs (i + 1)) := upC_made; have hE : ∀ w', Made w g 71 pSpn xs (i + 1) w' → Ext w w' := fun _ h => h.1))
  try any_goals (first | (refine Sq_nil ?_; try refine G_then ?_) | refine G_then ?_)
  try any_goals (refine H_block ?_)
  try any_goals ((refine H_loop (σ := Int) (fun i => 0 ≤ i ∧ i ≤ xs.length) (fun i => [(0, .inl v0), (3, .inl (.slice (some ⟨g, 0, none⟩) xs.length xs.length)), (4, .inl (.int .i64 i))]) (fun i => Made w g 71 pSpn xs i) (fun i => (xs.length - i).toNat) 0 ⟨by omega, by omega⟩ (fun a w' h => h.sub (by repeat (first | exact trivial | refine ⟨⟨_, rfl, fun _ _ _ h => h⟩, ?_⟩ | refine ⟨⟨_, rfl, fun v w _ h => (show v = _ from h).trans (congrArg (Value.int .i64) (by first | omega | (dsimp only; omega)))⟩, ?_⟩)) (fun w' h => made_new h rfl)) (fun i hi => ?_); have hC : UpC (Made w g 71 pSpn xs i) := upC_made; have hE : ∀ w', Made w g 71 pSpn xs i w' → Ext w w' := fun _ h => h.1))
  try any_goals (refine H_seq ?_)
  try any_goals (first | (refine H_seq ?_; try refine H_reg ?_) | refine H_reg ?_)
  try any_goals (first | refine W_move (d := 8) (sq_stepper hC) rfl rfl rfl ?_ | (refine Sq_storeM (by kernel_rfl) rfl rfl rfl elem_A hg (⟨trivial, trivial, trivial⟩) hi.1 (ix_get hi.1 (by omega)) ?_; have hC : UpC (Made w g 71 pSpn xs (i + 1)) := upC_made; have hE : ∀ w', Made w g 71 pSpn xs (i + 1) w' → Ext w w' := fun _ h => h.1))
  try any_goals (first | refine W_moveR (d := 9) (sq_stepper hC) (U := uS none pSpn xs) (fun w' h => IsS.up (hE w' h) hv0) rfl rfl rfl ?_ | refine W_move (d := 9) (sq_stepper hC) rfl rfl rfl ?_ | (refine Sq_storeM (by kernel_rfl) rfl rfl rfl elem_A hg (⟨trivial, trivial, trivial⟩) hi.1 (ix_get hi.1 (by omega)) ?_; have hC : UpC (Made w g 71 pSpn xs (i + 1)) := upC_made; have hE : ∀ w', Made w g 71 pSpn xs (i + 1) w' → Ext w w' := fun _ h => h.1))
  try any_goals (first | refine W_len (d := 10) (sq_stepper hC) (by kernel_rfl) rfl rfl rfl ?_ | refine W_lenStr (d := 10) (sq_stepper hC) (by kernel_rfl) rfl rfl rfl ?_ | (refine Sq_storeM (by kernel_rfl) rfl rfl rfl elem_A hg (⟨trivial, trivial, trivial⟩) hi.1 (ix_get hi.1 (by omega)) ?_; have hC : UpC (Made w g 71 pSpn xs (i + 1)) := upC_made; have hE : ∀ w', Made w g 71 pSpn xs (i + 1) w' → Ext w w' := fun _ h => h.1))
  try any_goals (first | refine W_cmp (d := 11) (sq_stepper hC) rfl rfl rfl rfl rfl ?_ | refine W_strcmp (d := 11) (sq_stepper hC) rfl rfl rfl rfl rfl ?_ | (refine Sq_storeM (by kernel_rfl) rfl rfl rfl elem_A hg (⟨trivial, trivial, trivial⟩) hi.1 (ix_get hi.1 (by omega)) ?_; have hC : UpC (Made w g 71 pSpn xs (i + 1)) := upC_made; have hE : ∀ w', Made w g 71 pSpn xs (i + 1) w' → Ext w w' := fun _ h => h.1))
  try any_goals (first | (refine Sq_nil ?_; try refine G_then ?_) | refine G_then ?_)
  try any_goals (first | refine H_condT rfl ?_ | refine H_condF rfl ?_ | (refine H_cond _ rfl (fun hq => ?_) (fun hq => ?_) <;> (try simp only [hqs, reduceCtorEq] at hq)))
  try any_goals (refine H_skip ?_)
  try any_goals (refine H_exit ?_)
  repeat (any_goals (first | refine G_exit_then ?_ | refine G_exit_here ?_ | refine G_exit_far rfl ?_))
  try any_goals (refine G_then ?_)
  try any_goals (refine H_seq ?_)
  try any_goals (refine H_block ?_)
  try any_goals (refine H_reg ?_)
  try any_goals (first | refine W_move (d := 14) (sq_stepper hC) rfl rfl rfl ?_ | (refine Sq_storeM (by kernel_rfl) rfl rfl rfl elem_A hg (⟨trivial, trivial, trivial⟩) hi.1 (ix_get hi.1 (by omega)) ?_; have hC : UpC (Made w g 71 pSpn xs (i + 1)) := upC_made; have hE : ∀ w', Made w g 71 pSpn xs (i + 1) w' → Ext w w' := fun _ h => h.1))
  try any_goals (first | refine W_move (d := 15) (sq_stepper hC) rfl rfl rfl ?_ | (refine Sq_storeM (by kernel_rfl) rfl rfl rfl elem_A hg (⟨trivial, trivial, trivial⟩) hi.1 (ix_get hi.1 (by omega)) ?_; have hC : UpC (Made w g 71 pSpn xs (i + 1)) := upC_made; have hE : ∀ w', Made w g 71 pSpn xs (i + 1) w' → Ext w w' := fun _ h => h.1))
  try any_goals (first | refine W_moveR (d := 16) (sq_stepper hC) (U := uS none pSpn xs) (fun w' h => IsS.up (hE w' h) hv0) rfl rfl rfl ?_ | refine W_move (d := 16) (sq_stepper hC) rfl rfl rfl ?_ | (refine Sq_storeM (by kernel_rfl) rfl rfl rfl elem_A hg (⟨trivial, trivial, trivial⟩) hi.1 (ix_get hi.1 (by omega)) ?_; have hC : UpC (Made w g 71 pSpn xs (i + 1)) := upC_made; have hE : ∀ w', Made w g 71 pSpn xs (i + 1) w' → Ext w w' := fun _ h => h.1))
  try any_goals (first | refine W_move (d := 17) (sq_stepper hC) rfl rfl rfl ?_ | (refine Sq_storeM (by kernel_rfl) rfl rfl rfl elem_A hg (⟨trivial, trivial, trivial⟩) hi.1 (ix_get hi.1 (by omega)) ?_; have hC : UpC (Made w g 71 pSpn xs (i + 1)) := upC_made; have hE : ∀ w', Made w g 71 pSpn xs (i + 1) w' → Ext w w' := fun _ h => h.1))
  try any_goals (first | refine W_index (d := 18) (sq_stepper hC) (by kernel_rfl) rfl rfl rfl rfl (by first | omega | (dsimp only; omega)) ?_ | refine W_indexO (d := 18) (s := Phi.k pSpn) (sq_stepper hC) (by kernel_rfl) rfl rfl rfl rfl (by omega) ?_ | (refine Sq_storeM (by kernel_rfl) rfl rfl rfl elem_A hg (⟨trivial, trivial, trivial⟩) hi.1 (ix_get hi.1 (by omega)) ?_; have hC : UpC (Made w g 71 pSpn xs (i + 1)) := upC_made; have hE : ∀ w', Made w g 71 pSpn xs (i + 1) w' → Ext w w' := fun _ h => h.1))
  try any_goals (first | refine W_loadA (d := 19) (sq_stepper hC) (by kernel_rfl) rfl rfl rfl ?_ | (refine Sq_storeM (by kernel_rfl) rfl rfl rfl elem_A hg (⟨trivial, trivial, trivial⟩) hi.1 (ix_get hi.1 (by omega)) ?_; have hC : UpC (Made w g 71 pSpn xs (i + 1)) := upC_made; have hE : ∀ w', Made w g 71 pSpn xs (i + 1) w' → Ext w w' := fun _ h => h.1))
  try any_goals (first | refine W_ct (d := 20) (sq_stepper hC) (ct_toSpan _) rfl rfl rfl (by kernel_rfl) ?_ | (refine Sq_storeM (by kernel_rfl) rfl rfl rfl elem_A hg (⟨trivial, trivial, trivial⟩) hi.1 (ix_get hi.1 (by omega)) ?_; have hC : UpC (Made w g 71 pSpn xs (i + 1)) := upC_made; have hE : ∀ w', Made w g 71 pSpn xs (i + 1) w' → Ext w w' := fun _ h => h.1))
  try any_goals (first | refine W_index (d := 21) (sq_stepper hC) (by kernel_rfl) rfl rfl rfl rfl (by first | omega | (dsimp only; omega)) ?_ | refine W_indexO (d := 21) (s := Phi.k pSpn) (sq_stepper hC) (by kernel_rfl) rfl rfl rfl rfl (by omega) ?_ | (refine Sq_storeM (by kernel_rfl) rfl rfl rfl elem_A hg (⟨trivial, trivial, trivial⟩) hi.1 (ix_get hi.1 (by omega)) ?_; have hC : UpC (Made w g 71 pSpn xs (i + 1)) := upC_made; have hE : ∀ w', Made w g 71 pSpn xs (i + 1) w' → Ext w w' := fun _ h => h.1))
  try any_goals ((refine Sq_storeM (by kernel_rfl) rfl rfl rfl elem_A hg (⟨trivial, trivial, trivial⟩) hi.1 (ix_get hi.1 (by omega)) ?_; have hC : UpC (Made w g 71 pSpn xs (i + 1)) := upC_made; have hE : ∀ w', Made w g 71 pSpn xs (i + 1) w' → Ext w w' := fun _ h => h.1))
  try any_goals (refine Sq_nil ?_)
  repeat (any_goals (first | refine G_exit_then ?_ | refine G_exit_here ?_ | refine G_exit_far rfl ?_ | refine G_normal_block ?_))
  try any_goals (refine G_then ?_)
  try any_goals (refine H_reg ?_)
  try any_goals (first | refine W_move (d := 12) (sq_stepper hC) rfl rfl rfl ?_ | (refine Sq_storeM (by kernel_rfl) rfl rfl rfl elem_A hg (⟨trivial, trivial, trivial⟩) hi.1 (ix_get hi.1 (by omega)) ?_; have hC : UpC (Made w g 71 pSpn xs (i + 1)) := upC_made; have hE : ∀ w', Made w g 71 pSpn xs (i + 1) w' → Ext w w' := fun _ h => h.1))
  try any_goals (first | refine W_ar (d := 13) (sq_stepper hC) rfl rfl rfl rfl rfl (by first | omega | (dsimp only; omega)) ?_ | (refine Sq_storeM (by kernel_rfl) rfl rfl rfl elem_A hg (⟨trivial, trivial, trivial⟩) hi.1 (ix_get hi.1 (by omega)) ?_; have hC : UpC (Made w g 71 pSpn xs (i + 1)) := upC_made; have hE : ∀ w', Made w g 71 pSpn xs (i + 1) w' → Ext w w' := fun _ h => h.1))
  try any_goals (first | refine W_assign (d := 4) (sq_stepper hC) rfl rfl rfl ?_ | (refine Sq_storeM (by kernel_rfl) rfl rfl rfl elem_A hg (⟨trivial, trivial, trivial⟩) hi.1 (ix_get hi.1 (by omega)) ?_; have hC : UpC (Made w g 71 pSpn xs (i + 1)) := upC_made; have hE : ∀ w', Made w g 71 pSpn xs (i + 1) w' → Ext w w' := fun _ h => h.1))
  try any_goals (refine Sq_nil ?_)
  try any_goals (refine G_again (i + 1) ⟨by omega, by omega⟩ (by omega) (by repeat (first | exact trivial | refine ⟨⟨_, rfl, fun _ _ _ h => h⟩, ?_⟩ | refine ⟨⟨_, rfl, fun v w _ h => (show v = _ from h).trans (congrArg (Value.int .i64) (by first | omega | (dsimp only; omega)))⟩, ?_⟩)) (fun _ h => h))
  repeat (any_goals (first | refine G_exit_then ?_ | refine G_exit_here ?_ | refine G_exit_far rfl ?_ | refine G_normal_block ?_))
  try any_goals (refine G_then ?_)
  try any_goals (first | (refine H_seq ?_; try refine H_reg ?_) | refine H_reg ?_)
  try any_goals (first | refine W_move (d := 22) (sq_stepper hC) rfl rfl rfl ?_ | (refine Sq_storeM (by kernel_rfl) rfl rfl rfl elem_A hg (⟨trivial, trivial, trivial⟩) hi.1 (ix_get hi.1 (by omega)) ?_; have hC : UpC (Made w g 71 pSpn xs (i + 1)) := upC_made; have hE : ∀ w', Made w g 71 pSpn xs (i + 1) w' → Ext w w' := fun _ h => h.1))
  try any_goals (first | refine W_assign (d := 2) (sq_stepper hC) rfl rfl rfl ?_ | (refine Sq_storeM (by kernel_rfl) rfl rfl rfl elem_A hg (⟨trivial, trivial, trivial⟩) hi.1 (ix_get hi.1 (by omega)) ?_; have hC : UpC (Made w g 71 pSpn xs (i + 1)) := upC_made; have hE : ∀ w', Made w g 71 pSpn xs (i + 1) w' → Ext w w' := fun _ h => h.1))
  try any_goals (first | (refine Sq_nil ?_; try refine G_then ?_) | refine G_then ?_)
  try any_goals (refine H_ret ?_)
  repeat (any_goals (first | refine G_ret_then ?_ | refine G_ret_block ?_))
  all_goals exact R1 rfl (fun _ h => h.1) rfl (fun v w' hc hv => by
    rw [show v = _ from hv]
    exact Made.isO hc hg hs (by omega) rfl (by simp only [maxLen]; omega))
theorem ct_toSpanS (xs : List Spn) (hn : xs.length ≤ 1048576)  : CT Try.prog 27 [.inr (uS none pSpn xs)] (.inr (uS (some 71) pSpn xs)) :=
  (cg_toSpanS xs hn).ct fun s v w ⟨S, _, h⟩ => OS.isS h
theorem ct_szSpanS (xs : List Spn) (l : Int) (hl : 0 ≤ l ∧ l ≤ 1048576) : CT Try.prog 21 [.inr (uS none pSpn xs), .inl (.int .i64 l)] (.inl (.int .i64 (szN xs.length l))) := by
  refine CT_len fun hlen => ?_
  refine CT_of Try.func21 rfl rfl rfl (fun w => ?_)
  have hC := upC_ext w
  try any_goals (first | (refine H_seq ?_; try refine H_reg ?_) | refine H_reg ?_)
  try any_goals (refine W_assign (d := 4) (sq_stepper hC) rfl rfl rfl ?_)
  try any_goals (first | (refine Sq_nil ?_; try refine G_then ?_) | refine G_then ?_)
  try any_goals (first | (refine H_seq ?_; try refine H_reg ?_) | refine H_reg ?_)
  try any_goals (refine W_move (d := 5) (sq_stepper hC) rfl rfl rfl ?_)
  try any_goals (refine W_move (d := 6) (sq_stepper hC) rfl rfl rfl ?_)
  try any_goals (first | refine W_len (d := 7) (sq_stepper hC) (by kernel_rfl) rfl rfl rfl ?_ | refine W_lenStr (d := 7) (sq_stepper hC) (by kernel_rfl) rfl rfl rfl ?_)
  try any_goals (refine W_ar (d := 8) (sq_stepper hC) rfl rfl rfl rfl rfl (by first | omega | (dsimp only; omega)) ?_)
  try any_goals (refine W_assign (d := 1) (sq_stepper hC) rfl rfl rfl ?_)
  try any_goals (first | (refine Sq_nil ?_; try refine G_then ?_) | refine G_then ?_)
  try any_goals (refine H_seq ?_)
  try any_goals (first | (refine H_seq ?_; try refine H_reg ?_) | refine H_reg ?_)
  try any_goals (refine W_move (d := 9) (sq_stepper hC) rfl rfl rfl ?_)
  try any_goals (first | refine W_cmp (d := 10) (sq_stepper hC) rfl rfl rfl rfl rfl ?_ | refine W_strcmp (d := 10) (sq_stepper hC) rfl rfl rfl rfl rfl ?_)
  try any_goals (first | (refine Sq_nil ?_; try refine G_then ?_) | refine G_then ?_)
  try any_goals (first | refine H_condT rfl ?_ | refine H_condF rfl ?_ | (refine H_cond _ rfl (fun hq => ?_) (fun hq => ?_) <;> (try simp only [hqs, reduceCtorEq] at hq)))
  try any_goals (first | (refine H_seq ?_; try refine H_reg ?_) | refine H_reg ?_)
  try any_goals (refine W_assign (d := 4) (sq_stepper hC) rfl rfl rfl ?_)
  try any_goals (first | (refine Sq_nil ?_; try refine G_then ?_) | refine G_then ?_)
  try any_goals (refine H_ret ?_)
  repeat (any_goals (first | refine G_ret_then ?_ | refine G_ret_block ?_))
  try any_goals (refine H_skip ?_)
  try any_goals (refine G_then ?_)
  try any_goals (first | (refine H_seq ?_; try refine H_reg ?_) | refine H_reg ?_)
  try any_goals (refine W_move (d := 11) (sq_stepper hC) rfl rfl rfl ?_)
  try any_goals (refine W_assign (d := 4) (sq_stepper hC) rfl rfl rfl ?_)
  try any_goals (first | (refine Sq_nil ?_; try refine G_then ?_) | refine G_then ?_)
  try any_goals (refine H_ret ?_)
  repeat (any_goals (first | refine G_ret_then ?_ | refine G_ret_block ?_))
  all_goals refine R1v rfl (fun _ h => h) rfl ?_
  all_goals (congr 1; unfold szN; split <;> omega)
theorem ct_eqSpan (b : Spn) : CT Try.prog 68 [.inr (uA pSpn b), .inr (uA pSpn b)] (.inl (.bool true)) := by
  refine CT_of Try.func68 rfl rfl rfl (fun w => ?_)
  have hC := upC_ext w
  try any_goals (first | (refine H_seq ?_; try refine H_reg ?_) | refine H_reg ?_)
  try any_goals (refine W_boxA (d := 2) (sq_stepper hC) rfl rfl rfl ?_)
  try any_goals (refine W_boxA (d := 3) (sq_stepper hC) rfl rfl rfl ?_)
  try any_goals (refine W_assign (d := 4) (sq_stepper hC) rfl rfl rfl ?_)
  try any_goals (first | (refine Sq_nil ?_; try refine G_then ?_) | refine G_then ?_)
  try any_goals (refine H_seq ?_)
  try any_goals (first | (refine H_seq ?_; try refine H_reg ?_) | refine H_reg ?_)
  try any_goals (first | refine W_fieldG (d := 5) (sq_stepper hC) (Proj.head _ _ _) (by kernel_rfl) rfl rfl rfl ?_ | refine W_fieldC (d := 5) (sq_stepper hC) (off := 0) (by kernel_rfl) rfl rfl rfl ?_)
  try any_goals (refine W_loadI (d := 6) (sq_stepper hC) (by kernel_rfl) rfl rfl rfl ?_)
  try any_goals (first | refine W_fieldG (d := 7) (sq_stepper hC) (Proj.head _ _ _) (by kernel_rfl) rfl rfl rfl ?_ | refine W_fieldC (d := 7) (sq_stepper hC) (off := 0) (by kernel_rfl) rfl rfl rfl ?_)
  try any_goals (refine W_loadI (d := 8) (sq_stepper hC) (by kernel_rfl) rfl rfl rfl ?_)
  try any_goals (first | refine W_cmp (d := 9) (sq_stepper hC) rfl rfl rfl rfl rfl ?_ | refine W_neqStr (d := 9) (sq_stepper hC) rfl rfl rfl rfl ?_ | refine W_neqB (d := 9) (sq_stepper hC) rfl rfl Try.underlying4 rfl rfl ?_)
  try any_goals (first | (refine Sq_nil ?_; try refine G_then ?_) | refine G_then ?_)
  try any_goals (first | refine H_condT rfl ?_ | refine H_condF rfl ?_ | (refine H_cond _ rfl (fun hq => ?_) (fun hq => ?_) <;> (try simp only [hqs, reduceCtorEq, decide_true, Bool.not_true, beq_self_eq_true] at hq)))
  try any_goals (first | (refine H_seq ?_; try refine H_reg ?_) | refine H_reg ?_)
  try any_goals (refine W_assign (d := 4) (sq_stepper hC) rfl rfl rfl ?_)
  try any_goals (first | (refine Sq_nil ?_; try refine G_then ?_) | refine G_then ?_)
  try any_goals (refine H_ret ?_)
  repeat (any_goals (first | refine G_ret_then ?_ | refine G_ret_block ?_))
  try any_goals (refine H_skip ?_)
  try any_goals (refine G_then ?_)
  try any_goals (refine H_seq ?_)
  try any_goals (first | (refine H_seq ?_; try refine H_reg ?_) | refine H_reg ?_)
  try any_goals (first | refine W_fieldG (d := 10) (sq_stepper hC) (Proj.tail _ _ (Proj.head _ _ _)) (by kernel_rfl) rfl rfl rfl ?_ | refine W_fieldC (d := 10) (sq_stepper hC) (off := 1) (by kernel_rfl) rfl rfl rfl ?_)
  try any_goals (refine W_loadI (d := 11) (sq_stepper hC) (by kernel_rfl) rfl rfl rfl ?_)
  try any_goals (first | refine W_fieldG (d := 12) (sq_stepper hC) (Proj.tail _ _ (Proj.head _ _ _)) (by kernel_rfl) rfl rfl rfl ?_ | refine W_fieldC (d := 12) (sq_stepper hC) (off := 1) (by kernel_rfl) rfl rfl rfl ?_)
  try any_goals (refine W_loadI (d := 13) (sq_stepper hC) (by kernel_rfl) rfl rfl rfl ?_)
  try any_goals (first | refine W_cmp (d := 14) (sq_stepper hC) rfl rfl rfl rfl rfl ?_ | refine W_neqStr (d := 14) (sq_stepper hC) rfl rfl rfl rfl ?_ | refine W_neqB (d := 14) (sq_stepper hC) rfl rfl Try.underlying4 rfl rfl ?_)
  try any_goals (first | (refine Sq_nil ?_; try refine G_then ?_) | refine G_then ?_)
  try any_goals (first | refine H_condT rfl ?_ | refine H_condF rfl ?_ | (refine H_cond _ rfl (fun hq => ?_) (fun hq => ?_) <;> (try simp only [hqs, reduceCtorEq, decide_true, Bool.not_true, beq_self_eq_true] at hq)))
  try any_goals (first | (refine H_seq ?_; try refine H_reg ?_) | refine H_reg ?_)
  try any_goals (refine W_assign (d := 4) (sq_stepper hC) rfl rfl rfl ?_)
  try any_goals (first | (refine Sq_nil ?_; try refine G_then ?_) | refine G_then ?_)
  try any_goals (refine H_ret ?_)
  repeat (any_goals (first | refine G_ret_then ?_ | refine G_ret_block ?_))
  try any_goals (refine H_skip ?_)
  try any_goals (refine G_then ?_)
  try any_goals (first | (refine H_seq ?_; try refine H_reg ?_) | refine H_reg ?_)
  try any_goals (refine W_assign (d := 4) (sq_stepper hC) rfl rfl rfl ?_)
  try any_goals (first | (refine Sq_nil ?_; try refine G_then ?_) | refine G_then ?_)
  try any_goals (refine H_ret ?_)
  repeat (any_goals (first | refine G_ret_then ?_ | refine G_ret_block ?_))
  all_goals exact R1v rfl (fun _ h => h) rfl rfl
theorem ct_eqSpanS {e1 e2 : Option TypeId} (xs : List Spn) : CT Try.prog 35 [.inr (uS e1 pSpn xs), .inr (uS e2 pSpn xs)] (.inl (.bool true)) := by
  refine CT_len fun hlen => ?_
  refine CT_of Try.func35 rfl rfl rfl (fun w => ?_)
  have hC := upC_ext w
  try any_goals (first | (refine H_seq ?_; try refine H_reg ?_) | refine H_reg ?_)
  try any_goals (refine W_assign (d := 4) (sq_stepper hC) rfl rfl rfl ?_)
  try any_goals (first | (refine Sq_nil ?_; try refine G_then ?_) | refine G_then ?_)
  try any_goals (refine H_seq ?_)
  try any_goals (first | (refine H_seq ?_; try refine H_reg ?_) | refine H_reg ?_)
  try any_goals (refine W_move (d := 6) (sq_stepper hC) rfl rfl rfl ?_)
  try any_goals (first | refine W_len (d := 7) (sq_stepper hC) (by kernel_rfl) rfl rfl rfl ?_ | refine W_lenStr (d := 7) (sq_stepper hC) (by kernel_rfl) rfl rfl rfl ?_)
  try any_goals (refine W_move (d := 8) (sq_stepper hC) rfl rfl rfl ?_)
  try any_goals (first | refine W_len (d := 9) (sq_stepper hC) (by kernel_rfl) rfl rfl rfl ?_ | refine W_lenStr (d := 9) (sq_stepper hC) (by kernel_rfl) rfl rfl rfl ?_)
  try any_goals (first | refine W_cmp (d := 10) (sq_stepper hC) rfl rfl rfl rfl rfl ?_ | refine W_neqStr (d := 10) (sq_stepper hC) rfl rfl rfl rfl ?_ | refine W_neqB (d := 10) (sq_stepper hC) rfl rfl Try.underlying4 rfl rfl ?_)
  try any_goals (first | (refine Sq_nil ?_; try refine G_then ?_) | refine G_then ?_)
  try any_goals (first | refine H_condT rfl ?_ | refine H_condF rfl ?_ | (refine H_cond _ rfl (fun hq => ?_) (fun hq => ?_) <;> (try simp only [hqs, reduceCtorEq, decide_true, Bool.not_true, beq_self_eq_true] at hq)))
  try any_goals (first | (refine H_seq ?_; try refine H_reg ?_) | refine H_reg ?_)
  try any_goals (refine W_assign (d := 4) (sq_stepper hC) rfl rfl rfl ?_)
  try any_goals (first | (refine Sq_nil ?_; try refine G_then ?_) | refine G_then ?_)
  try any_goals (refine H_ret ?_)
  repeat (any_goals (first | refine G_ret_then ?_ | refine G_ret_block ?_))
  try any_goals (refine H_skip ?_)
  try any_goals (refine G_then ?_)
  try any_goals (refine H_seq ?_)
  try any_goals (first | (refine H_seq ?_; try refine H_reg ?_) | refine H_reg ?_)
  try any_goals (refine W_assign (d := 5) (sq_stepper hC) rfl rfl rfl ?_)
  try any_goals (first | (refine Sq_nil ?_; try refine G_then ?_) | refine G_then ?_)
  try any_goals (refine H_block ?_)
  try any_goals ((refine H_loop (σ := Int) (fun i => 0 ≤ i ∧ i ≤ xs.length) (fun i => [(0, .inr (uS e1 pSpn xs)), (1, .inr (uS e2 pSpn xs)), (5, .inl (.int .i64 i))]) (fun _ => Ext w) (fun i => (xs.length - i).toNat) 0 ⟨by omega, by omega⟩ (fun a w' h => h.sub (by repeat (first | exact trivial | refine ⟨⟨_, rfl, fun _ _ _ h => h⟩, ?_⟩ | refine ⟨⟨_, rfl, fun v w _ h => (show v = _ from h).trans (congrArg (Value.int .i64) (by first | omega | (dsimp only; omega)))⟩, ?_⟩)) (fun _ h => h)) (fun i hi => ?_)))
  try any_goals (refine H_seq ?_)
  try any_goals (first | (refine H_seq ?_; try refine H_reg ?_) | refine H_reg ?_)
  try any_goals (refine W_move (d := 11) (sq_stepper hC) rfl rfl rfl ?_)
  try any_goals (refine W_move (d := 12) (sq_stepper hC) rfl rfl rfl ?_)
  try any_goals (first | refine W_len (d := 13) (sq_stepper hC) (by kernel_rfl) rfl rfl rfl ?_ | refine W_lenStr (d := 13) (sq_stepper hC) (by kernel_rfl) rfl rfl rfl ?_)
  try any_goals (first | refine W_cmp (d := 14) (sq_stepper hC) rfl rfl rfl rfl rfl ?_ | refine W_strcmp (d := 14) (sq_stepper hC) rfl rfl rfl rfl rfl ?_)
  try any_goals (first | (refine Sq_nil ?_; try refine G_then ?_) | refine G_then ?_)
  try any_goals (first | refine H_condT rfl ?_ | refine H_condF rfl ?_ | (refine H_cond _ rfl (fun hq => ?_) (fun hq => ?_) <;> (try simp only [hqs, reduceCtorEq, decide_true, Bool.not_true, beq_self_eq_true] at hq)))
  try any_goals (refine H_skip ?_)
  try any_goals (refine H_exit ?_)
  repeat (any_goals (first | refine G_exit_then ?_ | refine G_exit_here ?_ | refine G_exit_far rfl ?_))
  try any_goals (refine G_then ?_)
  try any_goals (refine H_seq ?_)
  try any_goals (refine H_block ?_)
  try any_goals (refine H_seq ?_)
  try any_goals (refine H_draw' (by kernel_rfl) hC ?_)
  try any_goals (refine W_move (d := 17) wk_stepper rfl rfl rfl ?_)
  try any_goals (refine W_move (d := 18) wk_stepper rfl rfl rfl ?_)
  try any_goals (refine W_index (d := 19) wk_stepper (by kernel_rfl) rfl rfl rfl rfl (by first | omega | (dsimp only; omega)) ?_)
  try any_goals (refine W_loadA (d := 20) wk_stepper (by kernel_rfl) rfl rfl rfl ?_)
  try any_goals (refine W_move (d := 21) wk_stepper rfl rfl rfl ?_)
  try any_goals (refine W_move (d := 22) wk_stepper rfl rfl rfl ?_)
  try any_goals (refine W_index (d := 23) wk_stepper (by kernel_rfl) rfl rfl rfl rfl (by first | omega | (dsimp only; omega)) ?_)
  try any_goals (refine W_loadA (d := 24) wk_stepper (by kernel_rfl) rfl rfl rfl ?_)
  try any_goals (refine W_ct (d := 25) wk_stepper (ct_eqSpan _) rfl rfl rfl (by kernel_rfl) ?_)
  try any_goals (refine W_not (d := 26) wk_stepper rfl rfl rfl ?_)
  try any_goals (refine Wk_end (by kernel_rfl) (by kernel_rfl) ?_)
  try any_goals (refine G_then ?_)
  try any_goals (first | refine H_condT rfl ?_ | refine H_condF rfl ?_ | (refine H_cond _ rfl (fun hq => ?_) (fun hq => ?_) <;> (try simp only [hqs, reduceCtorEq, decide_true, Bool.not_true, beq_self_eq_true] at hq)))
  try any_goals (first | (refine H_seq ?_; try refine H_reg ?_) | refine H_reg ?_)
  try any_goals (refine W_assign (d := 4) (sq_stepper hC) rfl rfl rfl ?_)
  try any_goals (first | (refine Sq_nil ?_; try refine G_then ?_) | refine G_then ?_)
  try any_goals (refine H_ret ?_)
  repeat (any_goals (first | refine G_ret_then ?_ | refine G_ret_block ?_))
  try any_goals (refine H_skip ?_)
  repeat (any_goals (first | refine G_exit_then ?_ | refine G_exit_here ?_ | refine G_exit_far rfl ?_ | refine G_normal_block ?_))
  try any_goals (refine G_then ?_)
  try any_goals (refine H_reg ?_)
  try any_goals (refine W_move (d := 15) (sq_stepper hC) rfl rfl rfl ?_)
  try any_goals (refine W_ar (d := 16) (sq_stepper hC) rfl rfl rfl rfl rfl (by first | omega | (dsimp only; omega)) ?_)
  try any_goals (refine W_assign (d := 5) (sq_stepper hC) rfl rfl rfl ?_)
  try any_goals (refine Sq_nil ?_)
  try any_goals (refine G_again (i + 1) ⟨by omega, by omega⟩ (by omega) (by repeat (first | exact trivial | refine ⟨⟨_, rfl, fun _ _ _ h => h⟩, ?_⟩ | refine ⟨⟨_, rfl, fun v w _ h => (show v = _ from h).trans (congrArg (Value.int .i64) (by first | omega | (dsimp only; omega)))⟩, ?_⟩)) (fun _ h => h))
  repeat (any_goals (first | refine G_exit_then ?_ | refine G_exit_here ?_ | refine G_exit_far rfl ?_ | refine G_normal_block ?_))
  try any_goals (refine G_then ?_)
  try any_goals (first | (refine H_seq ?_; try refine H_reg ?_) | refine H_reg ?_)
  try any_goals (refine W_assign (d := 4) (sq_stepper hC) rfl rfl rfl ?_)
  try any_goals (first | (refine Sq_nil ?_; try refine G_then ?_) | refine G_then ?_)
  try any_goals (refine H_ret ?_)
  repeat (any_goals (first | refine G_ret_then ?_ | refine G_ret_block ?_))
  all_goals exact R1v rfl (fun _ h => h) rfl rfl
theorem rd_Span : Rd Try.prog pSpn 73 := fun H enc W fuel cs x h => by
  obtain ⟨hl, hf⟩ := trod_fields Try.underlying73 h
  have hl' : cs.length = 2 := hl.trans (by kernel_rfl)
  obtain ⟨c0, c1, rfl⟩ := len2 hl'
  obtain ⟨_, _, t0⟩ := fld (k := 1) (hf 0 _ rfl) (by kernel_rfl) rfl
  obtain ⟨z0, e0⟩ := (Rd.int Try.underlying3) _ _ _ _ _ _ t0
  obtain ⟨_, _, t1⟩ := fld (k := 1) (hf 1 _ rfl) (by kernel_rfl) rfl
  obtain ⟨z1, e1⟩ := (Rd.int Try.underlying3) _ _ _ _ _ _ t1
  exact ⟨⟨z0, z1⟩, [c0], [c1], rfl, e0, [c1], [], rfl, e1, rfl⟩
def spOk (s : Spn) : Bool := inB s.F 0 1799 && inB s.T 0 1799 && decide (s.F ≤ s.T)
theorem spOk_t (s : Spn) : (spOk s = true) = ((0 ≤ s.F ∧ s.F ≤ 1799) ∧ (0 ≤ s.T ∧ s.T ≤ 1799) ∧ s.F ≤ s.T) := by simp only [spOk, Bool.and_eq_true, inB_t, decide_eq_true_eq, and_assoc]
theorem spOk_f (s : Spn) : (spOk s = false) = ¬ ((0 ≤ s.F ∧ s.F ≤ 1799) ∧ (0 ≤ s.T ∧ s.T ≤ 1799) ∧ s.F ≤ s.T) := by rw [← spOk_t]; simp
theorem ct_l4Span (s : Spn) : CT Try.prog 69 [.inr (uA pSpn s)] (.inl (.bool (spOk s))) := by
  refine CT_of Try.func69 rfl rfl rfl (fun w => ?_)
  have hC := upC_ext w
  try any_goals (first | (refine H_seq ?_; try refine H_reg ?_) | refine H_reg ?_)
  try any_goals (refine W_boxA (d := 1) (sq_stepper hC) rfl rfl rfl ?_)
  try any_goals (refine W_assign (d := 2) (sq_stepper hC) rfl rfl rfl ?_)
  try any_goals (first | (refine Sq_nil ?_; try refine G_then ?_) | refine G_then ?_)
  try any_goals (first | (refine H_seq ?_; try refine H_reg ?_) | refine H_reg ?_)
  try any_goals (first | refine W_fieldG (d := 3) (sq_stepper hC) (Proj.head _ _ _) (by kernel_rfl) rfl rfl rfl ?_ | refine W_fieldC (d := 3) (sq_stepper hC) (off := 0) (by kernel_rfl) rfl rfl rfl ?_)
  try any_goals (refine W_loadI (d := 4) (sq_stepper hC) (by kernel_rfl) rfl rfl rfl ?_)
  try any_goals (refine W_ct (d := 5) (sq_stepper hC) (ct_l4Time _) rfl rfl rfl (by kernel_rfl) ?_)
  try any_goals (refine W_move (d := 6) (sq_stepper hC) rfl rfl rfl ?_)
  try any_goals (first | refine W_gT (d := 7) (sq_stepper hC) _ rfl rfl ?_ | refine W_gF (d := 7) (sq_stepper hC) _ rfl rfl ?_ | (refine W_splitG (sq_stepper hC) _ rfl _ rfl (fun hq => ?_) (fun hq => ?_) <;> ((try simp only [hqs, reduceCtorEq] at hq); try (have hq' := hq; clear hq))))
  try any_goals (first | refine W_skip (d := 7) (sq_stepper hC) rfl rfl ?_ | refine W_fieldG (d := 7) (sq_stepper hC) (Proj.tail _ _ (Proj.head _ _ _)) (by kernel_rfl) rfl rfl rfl ?_ | refine W_fieldC (d := 7) (sq_stepper hC) (off := 1) (by kernel_rfl) rfl rfl rfl ?_)
  try any_goals (first | refine W_skip (d := 8) (sq_stepper hC) rfl rfl ?_ | refine W_loadI (d := 8) (sq_stepper hC) (by kernel_rfl) rfl rfl rfl ?_)
  try any_goals (first | refine W_skip (d := 9) (sq_stepper hC) rfl rfl ?_ | refine W_ct (d := 9) (sq_stepper hC) (ct_l4Time _) rfl rfl rfl (by kernel_rfl) ?_)
  try any_goals (first | refine W_pickT (d := 10) (sq_stepper hC) rfl rfl rfl rfl ?_ | refine W_pickF (d := 10) (sq_stepper hC) rfl rfl rfl rfl ?_)
  try any_goals (refine W_move (d := 11) (sq_stepper hC) rfl rfl rfl ?_)
  try any_goals (first | refine W_gT (d := 12) (sq_stepper hC) _ rfl rfl ?_ | refine W_gF (d := 12) (sq_stepper hC) _ rfl rfl ?_ | (refine W_splitG (sq_stepper hC) _ rfl _ rfl (fun hq => ?_) (fun hq => ?_) <;> ((try simp only [hqs, reduceCtorEq] at hq); try (have hq' := hq; clear hq))))
  try any_goals (first | refine W_skip (d := 12) (sq_stepper hC) rfl rfl ?_ | refine W_fieldG (d := 12) (sq_stepper hC) (Proj.head _ _ _) (by kernel_rfl) rfl rfl rfl ?_ | refine W_fieldC (d := 12) (sq_stepper hC) (off := 0) (by kernel_rfl) rfl rfl rfl ?_)
  try any_goals (first | refine W_skip (d := 13) (sq_stepper hC) rfl rfl ?_ | refine W_loadI (d := 13) (sq_stepper hC) (by kernel_rfl) rfl rfl rfl ?_)
  try any_goals (first | refine W_skip (d := 14) (sq_stepper hC) rfl rfl ?_ | refine W_fieldG (d := 14) (sq_stepper hC) (Proj.tail _ _ (Proj.head _ _ _)) (by kernel_rfl) rfl rfl rfl ?_ | refine W_fieldC (d := 14) (sq_stepper hC) (off := 1) (by kernel_rfl) rfl rfl rfl ?_)
  try any_goals (first | refine W_skip (d := 15) (sq_stepper hC) rfl rfl ?_ | refine W_loadI (d := 15) (sq_stepper hC) (by kernel_rfl) rfl rfl rfl ?_)
  try any_goals (first | refine W_skip (d := 16) (sq_stepper hC) rfl rfl ?_ | refine W_cmp (d := 16) (sq_stepper hC) rfl rfl rfl rfl rfl ?_ | refine W_strcmp (d := 16) (sq_stepper hC) rfl rfl rfl rfl rfl ?_)
  try any_goals (first | refine W_pickT (d := 17) (sq_stepper hC) rfl rfl rfl rfl ?_ | refine W_pickF (d := 17) (sq_stepper hC) rfl rfl rfl rfl ?_)
  try any_goals (refine W_assign (d := 2) (sq_stepper hC) rfl rfl rfl ?_)
  try any_goals (first | (refine Sq_nil ?_; try refine G_then ?_) | refine G_then ?_)
  try any_goals (refine H_ret ?_)
  repeat (any_goals (first | refine G_ret_then ?_ | refine G_ret_block ?_))
  all_goals refine R1v rfl (fun _ h => h) rfl (congrArg Value.bool ?_)
  all_goals (first | (symm; rw [spOk_t]; omega) | (symm; rw [spOk_f]; omega) | (simp [spOk, inB]; omega))
theorem ct_isSpan (s : Spn) : CT Try.prog 78 [.inr (uA pSpn s)] (.inl (.bool (spOk s))) := by
  refine CT_of Try.func78 rfl rfl rfl (fun w => ?_)
  have hC := upC_ext w
  try any_goals (first | (refine H_seq ?_; try refine H_reg ?_) | refine H_reg ?_)
  try any_goals (refine W_boxA (d := 1) (sq_stepper hC) rfl rfl rfl ?_)
  try any_goals (refine W_assign (d := 2) (sq_stepper hC) rfl rfl rfl ?_)
  try any_goals (first | (refine Sq_nil ?_; try refine G_then ?_) | refine G_then ?_)
  try any_goals (first | (refine H_seq ?_; try refine H_reg ?_) | refine H_reg ?_)
  try any_goals (first | refine W_fieldG (d := 3) (sq_stepper hC) (Proj.head _ _ _) (by kernel_rfl) rfl rfl rfl ?_ | refine W_fieldC (d := 3) (sq_stepper hC) (off := 0) (by kernel_rfl) rfl rfl rfl ?_)
  try any_goals (refine W_loadI (d := 4) (sq_stepper hC) (by kernel_rfl) rfl rfl rfl ?_)
  try any_goals (refine W_ct (d := 5) (sq_stepper hC) (ct_IsValidTime _) rfl rfl rfl (by kernel_rfl) ?_)
  try any_goals (refine W_move (d := 6) (sq_stepper hC) rfl rfl rfl ?_)
  try any_goals (first | refine W_gT (d := 7) (sq_stepper hC) _ rfl rfl ?_ | refine W_gF (d := 7) (sq_stepper hC) _ rfl rfl ?_ | (refine W_splitG (sq_stepper hC) _ rfl _ rfl (fun hq => ?_) (fun hq => ?_) <;> ((try simp only [hqs, reduceCtorEq] at hq); try (have hq' := hq; clear hq))))
  try any_goals (first | refine W_skip (d := 7) (sq_stepper hC) rfl rfl ?_ | refine W_fieldG (d := 7) (sq_stepper hC) (Proj.tail _ _ (Proj.head _ _ _)) (by kernel_rfl) rfl rfl rfl ?_ | refine W_fieldC (d := 7) (sq_stepper hC) (off := 1) (by kernel_rfl) rfl rfl rfl ?_)
  try any_goals (first | refine W_skip (d := 8) (sq_stepper hC) rfl rfl ?_ | refine W_loadI (d := 8) (sq_stepper hC) (by kernel_rfl) rfl rfl rfl ?_)
  try any_goals (first | refine W_skip (d := 9) (sq_stepper hC) rfl rfl ?_ | refine W_ct (d := 9) (sq_stepper hC) (ct_IsValidTime _) rfl rfl rfl (by kernel_rfl) ?_)
  try any_goals (first | refine W_pickT (d := 10) (sq_stepper hC) rfl rfl rfl rfl ?_ | refine W_pickF (d := 10) (sq_stepper hC) rfl rfl rfl rfl ?_)
  try any_goals (refine W_move (d := 11) (sq_stepper hC) rfl rfl rfl ?_)
  try any_goals (first | refine W_gT (d := 12) (sq_stepper hC) _ rfl rfl ?_ | refine W_gF (d := 12) (sq_stepper hC) _ rfl rfl ?_ | (refine W_splitG (sq_stepper hC) _ rfl _ rfl (fun hq => ?_) (fun hq => ?_) <;> ((try simp only [hqs, reduceCtorEq] at hq); try (have hq' := hq; clear hq))))
  try any_goals (first | refine W_skip (d := 12) (sq_stepper hC) rfl rfl ?_ | refine W_fieldG (d := 12) (sq_stepper hC) (Proj.head _ _ _) (by kernel_rfl) rfl rfl rfl ?_ | refine W_fieldC (d := 12) (sq_stepper hC) (off := 0) (by kernel_rfl) rfl rfl rfl ?_)
  try any_goals (first | refine W_skip (d := 13) (sq_stepper hC) rfl rfl ?_ | refine W_loadI (d := 13) (sq_stepper hC) (by kernel_rfl) rfl rfl rfl ?_)
  try any_goals (first | refine W_skip (d := 14) (sq_stepper hC) rfl rfl ?_ | refine W_fieldG (d := 14) (sq_stepper hC) (Proj.tail _ _ (Proj.head _ _ _)) (by kernel_rfl) rfl rfl rfl ?_ | refine W_fieldC (d := 14) (sq_stepper hC) (off := 1) (by kernel_rfl) rfl rfl rfl ?_)
  try any_goals (first | refine W_skip (d := 15) (sq_stepper hC) rfl rfl ?_ | refine W_loadI (d := 15) (sq_stepper hC) (by kernel_rfl) rfl rfl rfl ?_)
  try any_goals (first | refine W_skip (d := 16) (sq_stepper hC) rfl rfl ?_ | refine W_cmp (d := 16) (sq_stepper hC) rfl rfl rfl rfl rfl ?_ | refine W_strcmp (d := 16) (sq_stepper hC) rfl rfl rfl rfl rfl ?_)
  try any_goals (first | refine W_pickT (d := 17) (sq_stepper hC) rfl rfl rfl rfl ?_ | refine W_pickF (d := 17) (sq_stepper hC) rfl rfl rfl rfl ?_)
  try any_goals (refine W_assign (d := 2) (sq_stepper hC) rfl rfl rfl ?_)
  try any_goals (first | (refine Sq_nil ?_; try refine G_then ?_) | refine G_then ?_)
  try any_goals (refine H_ret ?_)
  repeat (any_goals (first | refine G_ret_then ?_ | refine G_ret_block ?_))
  all_goals refine R1v rfl (fun _ h => h) rfl (congrArg Value.bool ?_)
  all_goals (first | (symm; rw [spOk_t]; omega) | (symm; rw [spOk_f]; omega) | (simp [spOk, inB]; omega))
def spsOk (xs : List Spn) : Bool := decide ((xs.length : Int) ≤ 20) && (List.range xs.length).all fun j => spOk (ix xs j)
theorem spsOk_t (xs : List Spn) : (spsOk xs = true) ↔ ((xs.length : Int) ≤ 20 ∧ ∀ j : Nat, (j : Int) < xs.length → spOk (ix xs j) = true) := by
  simp [spsOk, List.all_eq_true]
theorem spsOk_f1 {xs : List Spn} (h : 20 < (xs.length : Int)) : spsOk xs = false := by
  cases hl : spsOk xs with
  | false => rfl
  | true => have := (spsOk_t xs).1 hl; omega
theorem spsOk_f2 {xs : List Spn} {i : Int} (h0 : 0 ≤ i) (h1 : i < xs.length) (h : ¬ spOk (ix xs i) = true) : spsOk xs = false := by
  cases hl : spsOk xs with
  | false => rfl
  | true =>
    have := ((spsOk_t xs).1 hl).2 i.toNat (by omega)
    rw [show ((i.toNat : Nat) : Int) = i by omega] at this
    exact absurd this h
theorem ct_areSpans {e : Option TypeId} (xs : List Spn) : CT Try.prog 62 [.inr (uS e pSpn xs)] (.inl (.bool (spsOk xs))) := by
  refine CT_len fun hlen => ?_
  refine CT_of Try.func62 rfl rfl rfl (fun w => ?_)
  have hC := upC_ext w
  try any_goals (first | (refine H_seq ?_; try refine H_reg ?_) | refine H_reg ?_)
  try any_goals (refine W_assign (d := 2) (sq_stepper hC) rfl rfl rfl ?_)
  try any_goals (first | (refine Sq_nil ?_; try refine G_then ?_) | refine G_then ?_)
  try any_goals (refine H_seq ?_)
  try any_goals (first | (refine H_seq ?_; try refine H_reg ?_) | refine H_reg ?_)
  try any_goals (refine W_move (d := 5) (sq_stepper hC) rfl rfl rfl ?_)
  try any_goals (first | refine W_len (d := 6) (sq_stepper hC) (by kernel_rfl) rfl rfl rfl ?_ | refine W_lenStr (d := 6) (sq_stepper hC) (by kernel_rfl) rfl rfl rfl ?_)
  try any_goals (first | refine W_cmp (d := 7) (sq_stepper hC) rfl rfl rfl rfl rfl ?_ | refine W_strcmp (d := 7) (sq_stepper hC) rfl rfl rfl rfl rfl ?_)
  try any_goals (first | (refine Sq_nil ?_; try refine G_then ?_) | refine G_then ?_)
  try any_goals (first | refine H_condT rfl ?_ | refine H_condF rfl ?_ | (refine H_cond _ rfl (fun hq => ?_) (fun hq => ?_) <;> (try simp only [hqs, reduceCtorEq] at hq)))
  try any_goals (first | (refine H_seq ?_; try refine H_reg ?_) | refine H_reg ?_)
  try any_goals (refine W_assign (d := 2) (sq_stepper hC) rfl rfl rfl ?_)
  try any_goals (first | (refine Sq_nil ?_; try refine G_then ?_) | refine G_then ?_)
  try any_goals (refine H_ret ?_)
  repeat (any_goals (first | refine G_ret_then ?_ | refine G_ret_block ?_))
  try any_goals (refine H_skip ?_)
  try any_goals (refine G_then ?_)
  try any_goals (refine H_seq ?_)
  try any_goals (first | (refine H_seq ?_; try refine H_reg ?_) | refine H_reg ?_)
  try any_goals (refine W_move (d := 8) (sq_stepper hC) rfl rfl rfl ?_)
  try any_goals (first | refine W_len (d := 9) (sq_stepper hC) (by kernel_rfl) rfl rfl rfl ?_ | refine W_lenStr (d := 9) (sq_stepper hC) (by kernel_rfl) rfl rfl rfl ?_)
  try any_goals (refine W_move (d := 10) (sq_stepper hC) rfl rfl rfl ?_)
  try any_goals (first | (refine Sq_nil ?_; try refine G_then ?_) | refine G_then ?_)
  try any_goals (refine H_block ?_)
  try any_goals ((refine H_loop (fun i : Int => 0 ≤ i ∧ i ≤ xs.length ∧ ∀ j : Nat, (j : Int) < i → spOk (ix xs j) = true) (fun i => [(0, .inr (uS e pSpn xs)), (8, .inr (uS e pSpn xs)), (9, .inl (.int .i64 xs.length)), (10, .inl (.int .i64 i))]) (fun _ => Ext w) (fun i => (xs.length - i).toNat) 0 ⟨by omega, by omega, fun j hj => by omega⟩ (fun a w h => h.sub (by repeat (first | exact trivial | refine ⟨⟨_, rfl, fun _ _ _ h => h⟩, ?_⟩ | refine ⟨⟨_, rfl, fun v w _ h => (show v = _ from h).trans (congrArg (Value.int .i64) (by first | omega | (dsimp only; omega)))⟩, ?_⟩)) fun _ h => h) (fun i hi => ?_); obtain ⟨h0, h1, hall⟩ := hi))
  try any_goals (first | (refine H_seq ?_; try refine H_reg ?_) | refine H_reg ?_)
  try any_goals (first | refine W_cmp (d := 11) (sq_stepper hC) rfl rfl rfl rfl rfl ?_ | refine W_strcmp (d := 11) (sq_stepper hC) rfl rfl rfl rfl rfl ?_)
  try any_goals (first | (refine Sq_nil ?_; try refine G_then ?_) | refine G_then ?_)
  try any_goals (refine H_seq ?_)
  try any_goals (first | refine H_condT rfl ?_ | refine H_condF rfl ?_ | (refine H_cond _ rfl (fun hq => ?_) (fun hq => ?_) <;> (try simp only [hqs, reduceCtorEq] at hq)))
  try any_goals (refine H_skip ?_)
  try any_goals (refine H_exit ?_)
  repeat (any_goals (first | refine G_exit_then ?_ | refine G_exit_here ?_ | refine G_exit_far rfl ?_))
  try any_goals (refine G_then ?_)
  try any_goals (refine H_seq ?_)
  try any_goals (refine H_block ?_)
  try any_goals (first | (refine H_seq ?_; try refine H_reg ?_) | refine H_reg ?_)
  try any_goals (refine W_index (d := 12) (sq_stepper hC) (by kernel_rfl) rfl rfl rfl rfl (by first | omega | (dsimp only; omega)) ?_)
  try any_goals (refine W_loadA (d := 13) (sq_stepper hC) (by kernel_rfl) rfl rfl rfl ?_)
  try any_goals (refine Sq_alloc (d := 4) (by kernel_rfl) hC rfl ?_)
  try any_goals (first | refine Pend_storeA (by kernel_rfl) hC rfl rfl ?_ | refine Pend_storeI (by kernel_rfl) hC rfl rfl ?_)
  try any_goals (first | (refine Sq_nil ?_; try refine G_then ?_) | refine G_then ?_)
  try any_goals (first | (refine H_seq ?_; try refine H_reg ?_) | refine H_reg ?_)
  try any_goals (refine W_loadA (d := 14) (sq_stepper hC) (by kernel_rfl) rfl rfl rfl ?_)
  try any_goals (refine W_ct (d := 15) (sq_stepper hC) (ct_isSpan _) rfl rfl rfl (by kernel_rfl) ?_)
  try any_goals (refine W_not (d := 16) (sq_stepper hC) rfl rfl rfl ?_)
  try any_goals (first | (refine Sq_nil ?_; try refine G_then ?_) | refine G_then ?_)
  try any_goals (first | refine H_condT rfl ?_ | refine H_condF rfl ?_ | (refine H_cond _ rfl (fun hq => ?_) (fun hq => ?_) <;> (try simp only [hqs, reduceCtorEq] at hq)))
  try any_goals (first | (refine H_seq ?_; try refine H_reg ?_) | refine H_reg ?_)
  try any_goals (refine W_assign (d := 2) (sq_stepper hC) rfl rfl rfl ?_)
  try any_goals (first | (refine Sq_nil ?_; try refine G_then ?_) | refine G_then ?_)
  try any_goals (refine H_ret ?_)
  repeat (any_goals (first | refine G_ret_then ?_ | refine G_ret_block ?_))
  try any_goals (refine H_skip ?_)
  repeat (any_goals (first | refine G_exit_then ?_ | refine G_exit_here ?_ | refine G_exit_far rfl ?_ | refine G_normal_block ?_))
  try any_goals (refine G_then ?_)
  try any_goals (refine H_reg ?_)
  try any_goals (refine W_ar (d := 17) (sq_stepper hC) rfl rfl rfl rfl rfl (by first | omega | (dsimp only; omega)) ?_)
  try any_goals (refine W_move (d := 10) (sq_stepper hC) rfl rfl rfl ?_)
  try any_goals (refine Sq_nil ?_)
  try any_goals (refine G_again (i + 1) ⟨by omega, by omega, all_step (p := fun i => spOk (ix xs i)) h0 hall hq⟩ (by omega) (by repeat (first | exact trivial | refine ⟨⟨_, rfl, fun _ _ _ h => h⟩, ?_⟩ | refine ⟨⟨_, rfl, fun v w _ h => (show v = _ from h).trans (congrArg (Value.int .i64) (by first | omega | (dsimp only; omega)))⟩, ?_⟩)) (fun _ h => h))
  repeat (any_goals (first | refine G_exit_then ?_ | refine G_exit_here ?_ | refine G_exit_far rfl ?_ | refine G_normal_block ?_))
  try any_goals (refine G_then ?_)
  try any_goals (first | (refine H_seq ?_; try refine H_reg ?_) | refine H_reg ?_)
  try any_goals (refine W_assign (d := 2) (sq_stepper hC) rfl rfl rfl ?_)
  try any_goals (first | (refine Sq_nil ?_; try refine G_then ?_) | refine G_then ?_)
  try any_goals (refine H_ret ?_)
  repeat (any_goals (first | refine G_ret_then ?_ | refine G_ret_block ?_))
  all_goals first
    | exact R1v rfl (fun _ h => h) rfl (congrArg Value.bool (spsOk_f1 (by omega)).symm)
    | exact R1v rfl (fun _ h => h) rfl (congrArg Value.bool (spsOk_f2 h0 (by omega) (by rw [hq]; exact Bool.false_ne_true)).symm)
    | exact R1v rfl (fun _ h => h) rfl (congrArg Value.bool ((spsOk_t xs).2 ⟨by omega, fun j hj => hall j (by omega)⟩).symm)
/-! ### How many contain a time -/
def inSp (t : Int) (s : Spn) : Bool := decide (s.F ≤ t) && decide (t < s.T)
def cnt (xs : List Spn) (t : Int) (i : Int) : Int := ((xs.take i.toNat).countP (inSp t) : Nat)
theorem cnt_0 (xs : List Spn) (t : Int) : cnt xs t 0 = 0 := by simp [cnt]
theorem cnt_step {xs : List Spn} {t i : Int} (h0 : 0 ≤ i) (h1 : i < xs.length) : cnt xs t (i + 1) = cnt xs t i + (if inSp t (ix xs i) = true then 1 else 0) := by
  unfold cnt
  rw [show (i + 1).toNat = i.toNat + 1 by omega, List.take_add_one, ix_get h0 h1]
  simp only [Option.toList, List.countP_append, List.countP_cons, List.countP_nil]
  split <;> simp <;> omega
theorem cnt_le {xs : List Spn} {t i : Int} : 0 ≤ cnt xs t i ∧ cnt xs t i ≤ xs.length := by
  unfold cnt
  have h1 : (xs.take i.toNat).countP (inSp t) ≤ (xs.take i.toNat).length := List.countP_le_length
  have h2 : (xs.take i.toNat).length ≤ xs.length := by simp; omega
  omega
def cntA (xs : List Spn) (t : Int) : Int := cnt xs t xs.length
def pk (xs : List Spn) : Nat → Int × Int
  | 0 => (0, 0)
  | t + 1 => if (pk xs t).1 < cntA xs t then (cntA xs t, (t : Int)) else pk xs t
theorem cntA_eq (xs : List Spn) (t : Int) : cntA xs t = (xs.countP (inSp t) : Nat) := by simp [cntA, cnt]
theorem pk_spec (xs : List Spn) : ∀ n : Nat, 0 ≤ (pk xs n).1 ∧ (∀ t : Nat, t < n → cntA xs t ≤ (pk xs n).1) ∧ (((pk xs n).1 = 0 ∧ (pk xs n).2 = 0) ∨ (0 < (pk xs n).1 ∧ ∃ t : Nat, t < n ∧ (pk xs n).2 = t ∧ cntA xs t = (pk xs n).1 ∧ ∀ s : Nat, s < t → cntA xs s < (pk xs n).1))
  | 0 => ⟨by simp [pk], fun t h => by omega, .inl ⟨rfl, rfl⟩⟩
  | n + 1 => by
    obtain ⟨h0, h1, h2⟩ := pk_spec xs n
    rw [pk]
    split
    · rename_i h
      exact ⟨by simp only; omega, fun t ht => by
        simp only
        by_cases e : t = n
        · rw [e]; omega
        · have := h1 t (by omega); omega, .inr ⟨by simp only; omega, n, by omega, rfl, rfl, fun s hs => by simp only; have := h1 s hs; omega⟩⟩
    · rename_i h
      refine ⟨h0, fun t ht => ?_, ?_⟩
      · by_cases e : t = n
        · rw [e]; omega
        · exact h1 t (by omega)
      · rcases h2 with h2 | ⟨h2, t, h3, h4⟩
        · exact .inl h2
        · exact .inr ⟨h2, t, by omega, h4⟩
/-- Some span that contains t begins at a time at which at least as many contain it. -/
theorem cnt_from {xs : List Spn} {t : Int} (h : 0 < cntA xs t) : ∃ s ∈ xs, s.F ≤ t ∧ cntA xs t ≤ cntA xs s.F := by
  have key : ∀ ys : List Spn, 0 < ys.countP (inSp t) → ∃ s ∈ ys, inSp t s = true ∧ ∀ r ∈ ys, inSp t r = true → r.F ≤ s.F := by
    intro ys
    induction ys with
    | nil => intro h; simp at h
    | cons y ys ih =>
      intro h
      by_cases hy : 0 < ys.countP (inSp t)
      · obtain ⟨s, hs, h1, h2⟩ := ih hy
        by_cases hb : inSp t y = true ∧ s.F < y.F
        · refine ⟨y, by simp, hb.1, fun r hr hr' => ?_⟩
          rcases List.mem_cons.1 hr with rfl | hr
          · omega
          · have := h2 r hr hr'; omega
        · refine ⟨s, by simp [hs], h1, fun r hr hr' => ?_⟩
          rcases List.mem_cons.1 hr with rfl | hr
          · by_cases hc : s.F < r.F
            · exact absurd ⟨hr', hc⟩ hb
            · omega
          · exact h2 r hr hr'
      · have hy0 : ys.countP (inSp t) = 0 := by omega
        rw [List.countP_cons] at h
        have hyt : inSp t y = true := by
          by_cases hc : inSp t y = true
          · exact hc
          · rw [if_neg hc] at h; omega
        refine ⟨y, by simp, hyt, fun r hr hr' => ?_⟩
        rcases List.mem_cons.1 hr with rfl | hr
        · omega
        · exact absurd hr' (by have := List.countP_eq_zero.1 hy0 r hr; exact this)
  rw [cntA_eq] at h
  obtain ⟨s, hs, h1, h2⟩ := key xs (by omega)
  simp only [inSp, Bool.and_eq_true, decide_eq_true_eq] at h1
  refine ⟨s, hs, h1.1, ?_⟩
  rw [cntA_eq, cntA_eq]
  have : xs.countP (inSp t) ≤ xs.countP (inSp s.F) := List.countP_mono_left fun r hr hr' => by
    have := h2 r hr hr'
    simp only [inSp, Bool.and_eq_true, decide_eq_true_eq] at hr' ⊢
    omega
  omega
/-- What the other way of looking comes to is the same. -/
theorem pk_same {xs : List Spn} {best most : Int} (hok : spsOk xs = true) (hb0 : most = 0 → best = 0) (hm : 0 ≤ most) (hle : ∀ j : Nat, (j : Int) < xs.length → cntA xs (ix xs j).F ≤ most ∧ (cntA xs (ix xs j).F = most → 0 < most → best ≤ (ix xs j).F))
    (hex : 0 < most → ∃ j : Nat, (j : Int) < xs.length ∧ best = (ix xs j).F ∧ cntA xs best = most) : pk xs 1800 = (most, best) := by
  obtain ⟨p0, p1, p2⟩ := pk_spec xs 1800
  have hok' := ((spsOk_t xs).1 hok).2
  have hmem : ∀ s ∈ xs, ∃ j : Nat, (j : Int) < xs.length ∧ s = ix xs j := fun s hs => by
    obtain ⟨j, hj⟩ := List.mem_iff_getElem?.1 hs
    have hjl := (List.getElem?_eq_some_iff.1 hj).1
    refine ⟨j, by omega, ?_⟩
    have := ix_get (xs := xs) (i := j) (by omega) (by omega)
    simp only [Int.toNat_natCast] at this
    rw [hj] at this
    injection this
  have hF : ∀ j : Nat, (j : Int) < xs.length → cntA xs (ix xs j).F ≤ (pk xs 1800).1 := fun j hj => by
    have hs := hok' j hj
    rw [spOk_t] at hs
    have := p1 (ix xs j).F.toNat (by omega)
    rwa [show (((ix xs j).F.toNat : Nat) : Int) = (ix xs j).F by omega] at this
  have hmost : most ≤ (pk xs 1800).1 := by
    by_cases e : 0 < most
    · obtain ⟨j, hj, hb, hc⟩ := hex e
      have := hF j hj
      rw [← hb] at this
      omega
    · omega
  rcases p2 with ⟨h1, h2⟩ | ⟨h1, t, ht, h2, h3, h4⟩
  · have : most = 0 := by omega
    rw [Prod.ext_iff]
    exact ⟨by omega, by rw [h2, hb0 this]⟩
  · obtain ⟨s, hs, hsF, hsc⟩ := cnt_from (xs := xs) (t := t) (by omega)
    obtain ⟨j, hj, rfl⟩ := hmem s hs
    have hj2 := hle j hj
    have e1 : (pk xs 1800).1 = most := by omega
    obtain ⟨j', hj', hb, hc⟩ := hex (by omega)
    have hs' := hok' j' hj'
    rw [spOk_t] at hs'
    have h5 : best ≤ t := by
      have := hj2.2 (by omega) (by omega)
      omega
    have h6 : ¬ best < t := fun hlt => by
      have := h4 best.toNat (by omega)
      rw [show ((best.toNat : Nat) : Int) = best by omega] at this
      omega
    rw [Prod.ext_iff]
    exact ⟨e1, by rw [h2]; show (t : Int) = best; omega⟩
end Go.Proofs.Ytanlaggnhocjhaa
