/- Rosters that a call made: their memory; marked with numbers in order, and read again. -/
import Derived.Test.YtanlaggnhocjhaaRos
import Derived.Test.YtanlaggnhocjhaaSSM
import Derived.Test.YtanlaggnhocjhaaRsg
import Derived.Test.YtanlaggnhocjhaaMR
import Derived.Test.YtanlaggnhocjhaaDto
namespace Go.Proofs.Ytanlaggnhocjhaa
set_option linter.unusedSimpArgs false
set_option linter.unusedVariables false
open Go.RowKit Go.ChangeShapes Go.WideShapes Go.ChangeAt Go.Deep
def fSpn : Fm Spn := fCat Spn.F fI (fCat Spn.T fI fNil)
def fRul : Fm Rul := fCat Rul.A fI (fCat Rul.B fI (fCat Rul.C fI fNil))
def fRos : Fm Ros := fCat Ros.S (fS 71 fSpn) (fCat Ros.R fRul (fCat Ros.D (fS 39 fII) fNil))
theorem cq_toSpanS (xs : List Spn) (hn : xs.length ≤ 1048576) : CTG Try.prog 27 [.inr (uS none pSpn xs)] (fun s => .inr (uQ (fun b => s ≤ b) 71 pSpn xs)) := (cg_toSpanS xs hn).uQ hn
theorem cq_toRul (b : Rul)  : CTG Try.prog 28 [.inr (uA pRul b)] (fun s => .inr (uA ((fRul).P (fun b => s ≤ b)) b)) := by
  refine CTG_of1V Try.func28 rfl rfl rfl (fun w s v0 hs hv0 => ?_)
  obtain ⟨cs0, rfl, hz0⟩ := hv0
  refine H_weakenC (C' := Cls w [] fun _ => True) (fun w' h => cls_ext w' h) ?_
  have hF : UpC (fun _ : World => True) := upC_true
  try any_goals (first | (refine H_seq ?_; try refine H_reg ?_) | refine H_reg ?_)
  try any_goals (refine Sq_boxC (d := 1) hF rfl rfl (fun g1 hlo => ?_))
  try any_goals (refine Sq_allocC (d := 2) (n := 3) hF (by kernel_rfl) rfl (fun g2 cs2 hl2 hlo2 => ?_); obtain ⟨c2x0, c2x1, c2x2, rfl⟩ := len3 hl2)
  try any_goals (first | (refine Sq_nil ?_; try refine G_then ?_) | refine G_then ?_)
  try any_goals (first | (refine H_seq ?_; try refine H_reg ?_) | refine H_reg ?_)
  try any_goals (refine Sq_allocC (d := 3) (n := 3) hF (by kernel_rfl) rfl (fun g3 cs3 hl3 hlo3 => ?_); obtain ⟨c3x0, c3x1, c3x2, rfl⟩ := len3 hl3)
  try any_goals (first | (refine Sq_nil ?_; try refine G_then ?_) | refine G_then ?_)
  try any_goals (first | (refine H_seq ?_; try refine H_reg ?_) | refine H_reg ?_)
  try any_goals (first | refine W_fieldG (d := 4) (sq_stepper (upC_cls hF)) (Proj.head _ _ _) (by kernel_rfl) rfl rfl rfl ?_ | refine W_fieldRC (d := 4) 2 (sq_stepper (upC_cls hF)) (Proj.head _ _ _) hz0 (by kernel_rfl) rfl rfl rfl rfl ?_ | refine W_fieldC (d := 4) (sq_stepper (upC_cls hF)) (off := 0) (by kernel_rfl) rfl rfl rfl ?_)
  try any_goals (first | refine W_loadI (d := 5) (sq_stepper (upC_cls hF)) (by kernel_rfl) rfl rfl rfl ?_ | refine W_loadAC (d := 5) 0 (sq_stepper (upC_cls hF)) (vs := [v0x0, v1x0, v2x0]) (by kernel_rfl) rfl rfl rfl rfl rfl (zadd fun j u h => h) ?_)
  try any_goals (first | refine W_fieldG (d := 6) (sq_stepper (upC_cls hF)) (Proj.head _ _ _) (by kernel_rfl) rfl rfl rfl ?_ | refine W_fieldRC (d := 6) 2 (sq_stepper (upC_cls hF)) (Proj.head _ _ _) hz0 (by kernel_rfl) rfl rfl rfl rfl ?_ | refine W_fieldC (d := 6) (sq_stepper (upC_cls hF)) (off := 0) (by kernel_rfl) rfl rfl rfl ?_)
  try any_goals (refine Sq_storeE 0 (Ψ := pI) (by kernel_rfl) rfl rfl elem_I rfl (Nat.le_of_ble_eq_true rfl) (by repeat (first | exact av_nil | exact av_I | exact av_B | exact av_Str | refine av_S (by decide) ?_ | refine av_cat ?_ ?_ | refine av_Q (by decide) ?_)) (by repeat (first | exact stF_true | exact stF_phi (by repeat (first | exact av_nil | exact av_I | exact av_B | exact av_Str | refine av_S (by decide) ?_ | refine av_cat ?_ ?_ | refine av_Q (by decide) ?_)) | refine stF_and ?_ ?_)) hF (fun vs hl hF => ?_); obtain ⟨v0x0, rfl⟩ := len1 hl)
  try any_goals (first | (refine Sq_nil ?_; try refine G_then ?_) | refine G_then ?_)
  try any_goals (first | (refine H_seq ?_; try refine H_reg ?_) | refine H_reg ?_)
  try any_goals (first | refine W_fieldG (d := 7) (sq_stepper (upC_cls hF)) (Proj.tail _ _ (Proj.head _ _ _)) (by kernel_rfl) rfl rfl rfl ?_ | refine W_fieldRC (d := 7) 2 (sq_stepper (upC_cls hF)) (Proj.tail _ _ (Proj.head _ _ _)) hz0 (by kernel_rfl) rfl rfl rfl rfl ?_ | refine W_fieldC (d := 7) (sq_stepper (upC_cls hF)) (off := 1) (by kernel_rfl) rfl rfl rfl ?_)
  try any_goals (first | refine W_loadI (d := 8) (sq_stepper (upC_cls hF)) (by kernel_rfl) rfl rfl rfl ?_ | refine W_loadAC (d := 8) 0 (sq_stepper (upC_cls hF)) (vs := [v0x0, v1x0, v2x0]) (by kernel_rfl) rfl rfl rfl rfl rfl (zadd fun j u h => h) ?_)
  try any_goals (first | refine W_fieldG (d := 9) (sq_stepper (upC_cls hF)) (Proj.tail _ _ (Proj.head _ _ _)) (by kernel_rfl) rfl rfl rfl ?_ | refine W_fieldRC (d := 9) 2 (sq_stepper (upC_cls hF)) (Proj.tail _ _ (Proj.head _ _ _)) hz0 (by kernel_rfl) rfl rfl rfl rfl ?_ | refine W_fieldC (d := 9) (sq_stepper (upC_cls hF)) (off := 1) (by kernel_rfl) rfl rfl rfl ?_)
  try any_goals (refine Sq_storeE 0 (Ψ := pI) (by kernel_rfl) rfl rfl elem_I rfl (Nat.le_of_ble_eq_true rfl) (by repeat (first | exact av_nil | exact av_I | exact av_B | exact av_Str | refine av_S (by decide) ?_ | refine av_cat ?_ ?_ | refine av_Q (by decide) ?_)) (by repeat (first | exact stF_true | exact stF_phi (by repeat (first | exact av_nil | exact av_I | exact av_B | exact av_Str | refine av_S (by decide) ?_ | refine av_cat ?_ ?_ | refine av_Q (by decide) ?_)) | refine stF_and ?_ ?_)) hF (fun vs hl hF => ?_); obtain ⟨v1x0, rfl⟩ := len1 hl)
  try any_goals (first | (refine Sq_nil ?_; try refine G_then ?_) | refine G_then ?_)
  try any_goals (first | (refine H_seq ?_; try refine H_reg ?_) | refine H_reg ?_)
  try any_goals (first | refine W_fieldG (d := 10) (sq_stepper (upC_cls hF)) (Proj.tail _ _ (Proj.tail _ _ (Proj.head _ _ _))) (by kernel_rfl) rfl rfl rfl ?_ | refine W_fieldRC (d := 10) 2 (sq_stepper (upC_cls hF)) (Proj.tail _ _ (Proj.tail _ _ (Proj.head _ _ _))) hz0 (by kernel_rfl) rfl rfl rfl rfl ?_ | refine W_fieldC (d := 10) (sq_stepper (upC_cls hF)) (off := 2) (by kernel_rfl) rfl rfl rfl ?_)
  try any_goals (first | refine W_loadI (d := 11) (sq_stepper (upC_cls hF)) (by kernel_rfl) rfl rfl rfl ?_ | refine W_loadAC (d := 11) 0 (sq_stepper (upC_cls hF)) (vs := [v0x0, v1x0, v2x0]) (by kernel_rfl) rfl rfl rfl rfl rfl (zadd fun j u h => h) ?_)
  try any_goals (first | refine W_fieldG (d := 12) (sq_stepper (upC_cls hF)) (Proj.tail _ _ (Proj.tail _ _ (Proj.head _ _ _))) (by kernel_rfl) rfl rfl rfl ?_ | refine W_fieldRC (d := 12) 2 (sq_stepper (upC_cls hF)) (Proj.tail _ _ (Proj.tail _ _ (Proj.head _ _ _))) hz0 (by kernel_rfl) rfl rfl rfl rfl ?_ | refine W_fieldC (d := 12) (sq_stepper (upC_cls hF)) (off := 2) (by kernel_rfl) rfl rfl rfl ?_)
  try any_goals (refine Sq_storeE 0 (Ψ := pI) (by kernel_rfl) rfl rfl elem_I rfl (Nat.le_of_ble_eq_true rfl) (by repeat (first | exact av_nil | exact av_I | exact av_B | exact av_Str | refine av_S (by decide) ?_ | refine av_cat ?_ ?_ | refine av_Q (by decide) ?_)) (by repeat (first | exact stF_true | exact stF_phi (by repeat (first | exact av_nil | exact av_I | exact av_B | exact av_Str | refine av_S (by decide) ?_ | refine av_cat ?_ ?_ | refine av_Q (by decide) ?_)) | refine stF_and ?_ ?_)) hF (fun vs hl hF => ?_); obtain ⟨v2x0, rfl⟩ := len1 hl)
  try any_goals (first | (refine Sq_nil ?_; try refine G_then ?_) | refine G_then ?_)
  try any_goals (first | (refine H_seq ?_; try refine H_reg ?_) | refine H_reg ?_)
  try any_goals (first | refine W_loadA (d := 13) (sq_stepper (upC_cls hF)) (by kernel_rfl) rfl rfl rfl ?_ | refine W_loadAC (d := 13) 0 (sq_stepper (upC_cls hF)) (vs := [v0x0, v1x0, v2x0]) (by kernel_rfl) rfl rfl rfl rfl rfl (zadd fun j u h => h) ?_)
  try any_goals (refine Sq_storeAg 1 (vs := [v0x0, v1x0, v2x0]) (by kernel_rfl) rfl rfl rfl (fun w' h => Phi.one ((fRul).P (fun b => s ≤ b)) b _ w' ⟨[v0x0], [v1x0, v2x0], rfl, h.1.1.2, [v1x0], [v2x0], rfl, h.1.2, [v2x0], [], rfl, h.2, rfl⟩) rfl (Nat.le_of_ble_eq_true rfl) (by repeat (first | exact stF_true | exact stF_phi (by repeat (first | exact av_nil | exact av_I | exact av_B | exact av_Str | refine av_S (by decide) ?_ | refine av_cat ?_ ?_ | refine av_Q (by decide) ?_)) | refine stF_and ?_ ?_)) ?_)
  try any_goals (first | (refine Sq_nil ?_; try refine G_then ?_) | refine G_then ?_)
  try any_goals (refine H_ret ?_)
  repeat (any_goals (first | refine G_ret_then ?_ | refine G_ret_block ?_))
  all_goals exact RcellC 1 rfl (by kernel_rfl) rfl rfl rfl (fun w' h => ⟨[v0x0, v1x0, v2x0], rfl, ⟨[v0x0], [v1x0, v2x0], rfl, h.fct.1.1.2, [v1x0], [v2x0], rfl, h.fct.1.2, [v2x0], [], rfl, h.fct.2, rfl⟩⟩)
theorem cq_toRos (b : Ros) (hf : RosF b) : CTG Try.prog 8 [.inr (uA aRos b)] (fun s => .inr (uA ((fRos).P (fun b => s ≤ b)) b)) := by
  refine CTG_of1V Try.func8 rfl rfl rfl (fun w s v0 hs hv0 => ?_)
  obtain ⟨cs0, rfl, hz0⟩ := hv0
  refine H_weakenC (C' := Cls w [] fun _ => True) (fun w' h => cls_ext w' h) ?_
  have hF : UpC (fun _ : World => True) := upC_true
  try any_goals (first | (refine H_seq ?_; try refine H_reg ?_) | refine H_reg ?_)
  try any_goals (refine Sq_boxC (d := 1) hF rfl rfl (fun g1 hlo => ?_))
  try any_goals (refine Sq_allocC (d := 2) (n := 5) hF (by kernel_rfl) rfl (fun g2 cs2 hl2 hlo2 => ?_); obtain ⟨c2x0, c2x1, c2x2, c2x3, c2x4, rfl⟩ := len5 hl2)
  try any_goals (first | (refine Sq_nil ?_; try refine G_then ?_) | refine G_then ?_)
  try any_goals (first | (refine H_seq ?_; try refine H_reg ?_) | refine H_reg ?_)
  try any_goals (refine Sq_allocC (d := 3) (n := 5) hF (by kernel_rfl) rfl (fun g3 cs3 hl3 hlo3 => ?_); obtain ⟨c3x0, c3x1, c3x2, c3x3, c3x4, rfl⟩ := len5 hl3)
  try any_goals (first | (refine Sq_nil ?_; try refine G_then ?_) | refine G_then ?_)
  try any_goals (first | (refine H_seq ?_; try refine H_reg ?_) | refine H_reg ?_)
  try any_goals (first | refine W_fieldG (d := 4) (sq_stepper (upC_cls hF)) (Proj.head _ _ _) (by kernel_rfl) rfl rfl rfl ?_ | refine W_fieldRC (d := 4) 2 (sq_stepper (upC_cls hF)) (Proj.head _ _ _) hz0 (by kernel_rfl) rfl rfl rfl rfl ?_ | refine W_fieldC (d := 4) (sq_stepper (upC_cls hF)) (off := 0) (by kernel_rfl) rfl rfl rfl ?_)
  try any_goals (first | refine W_loadS (d := 5) (sq_stepper (upC_cls hF)) (by kernel_rfl) rfl rfl rfl ?_ | refine W_loadAC (d := 5) 0 (sq_stepper (upC_cls hF)) (vs := [v0x0, v1x0, v1x1, v1x2, v2x0]) (by kernel_rfl) rfl rfl rfl rfl rfl (zadd fun j u h => h) ?_)
  try any_goals ((refine W_ctG (d := 6) (sq_stepper (upC_cls hF)) (cq_toSpanS _ hf.s) (fun w' h => Nat.le_trans hs (Cls.ext h).size) rfl rfl rfl (by kernel_rfl) ?_))
  try any_goals (first | refine W_fieldG (d := 7) (sq_stepper (upC_cls hF)) (Proj.head _ _ _) (by kernel_rfl) rfl rfl rfl ?_ | refine W_fieldRC (d := 7) 2 (sq_stepper (upC_cls hF)) (Proj.head _ _ _) hz0 (by kernel_rfl) rfl rfl rfl rfl ?_ | refine W_fieldC (d := 7) (sq_stepper (upC_cls hF)) (off := 0) (by kernel_rfl) rfl rfl rfl ?_)
  try any_goals (refine Sq_storeE 0 (Ψ := (qS (fun b => s ≤ b) 71 pSpn)) (by kernel_rfl) rfl rfl elem_Q rfl (Nat.le_of_ble_eq_true rfl) (by repeat (first | exact av_nil | exact av_I | exact av_B | exact av_Str | refine av_S (by decide) ?_ | refine av_cat ?_ ?_ | refine av_Q (by decide) ?_)) (by repeat (first | exact stF_true | exact stF_phi (by repeat (first | exact av_nil | exact av_I | exact av_B | exact av_Str | refine av_S (by decide) ?_ | refine av_cat ?_ ?_ | refine av_Q (by decide) ?_)) | refine stF_and ?_ ?_)) hF (fun vs hl hF => ?_); obtain ⟨v0x0, rfl⟩ := len1 hl)
  try any_goals (first | (refine Sq_nil ?_; try refine G_then ?_) | refine G_then ?_)
  try any_goals (first | (refine H_seq ?_; try refine H_reg ?_) | refine H_reg ?_)
  try any_goals (first | refine W_fieldG (d := 8) (sq_stepper (upC_cls hF)) (Proj.tail _ _ (Proj.head _ _ _)) (by kernel_rfl) rfl rfl rfl ?_ | refine W_fieldRC (d := 8) 2 (sq_stepper (upC_cls hF)) (Proj.tail _ _ (Proj.head _ _ _)) hz0 (by kernel_rfl) rfl rfl rfl rfl ?_ | refine W_fieldC (d := 8) (sq_stepper (upC_cls hF)) (off := 1) (by kernel_rfl) rfl rfl rfl ?_)
  try any_goals (first | refine W_loadA (d := 9) (sq_stepper (upC_cls hF)) (by kernel_rfl) rfl rfl rfl ?_ | refine W_loadAC (d := 9) 0 (sq_stepper (upC_cls hF)) (vs := [v0x0, v1x0, v1x1, v1x2, v2x0]) (by kernel_rfl) rfl rfl rfl rfl rfl (zadd fun j u h => h) ?_)
  try any_goals ((refine W_ctG (d := 10) (sq_stepper (upC_cls hF)) (cq_toRul _) (fun w' h => Nat.le_trans hs (Cls.ext h).size) rfl rfl rfl (by kernel_rfl) ?_))
  try any_goals (first | refine W_fieldG (d := 11) (sq_stepper (upC_cls hF)) (Proj.tail _ _ (Proj.head _ _ _)) (by kernel_rfl) rfl rfl rfl ?_ | refine W_fieldRC (d := 11) 2 (sq_stepper (upC_cls hF)) (Proj.tail _ _ (Proj.head _ _ _)) hz0 (by kernel_rfl) rfl rfl rfl rfl ?_ | refine W_fieldC (d := 11) (sq_stepper (upC_cls hF)) (off := 1) (by kernel_rfl) rfl rfl rfl ?_)
  try any_goals (refine Sq_storeE 0 (Ψ := (fRul.P (fun b => s ≤ b))) (by kernel_rfl) rfl rfl elem_A rfl (Nat.le_of_ble_eq_true rfl) (by repeat (first | exact av_nil | exact av_I | exact av_B | exact av_Str | refine av_S (by decide) ?_ | refine av_cat ?_ ?_ | refine av_Q (by decide) ?_)) (by repeat (first | exact stF_true | exact stF_phi (by repeat (first | exact av_nil | exact av_I | exact av_B | exact av_Str | refine av_S (by decide) ?_ | refine av_cat ?_ ?_ | refine av_Q (by decide) ?_)) | refine stF_and ?_ ?_)) hF (fun vs hl hF => ?_); obtain ⟨v1x0, v1x1, v1x2, rfl⟩ := len3 hl)
  try any_goals (first | (refine Sq_nil ?_; try refine G_then ?_) | refine G_then ?_)
  try any_goals (first | (refine H_seq ?_; try refine H_reg ?_) | refine H_reg ?_)
  try any_goals (first | refine W_fieldG (d := 12) (sq_stepper (upC_cls hF)) (Proj.tail _ _ (Proj.tail _ _ (Proj.head _ _ _))) (by kernel_rfl) rfl rfl rfl ?_ | refine W_fieldRC (d := 12) 2 (sq_stepper (upC_cls hF)) (Proj.tail _ _ (Proj.tail _ _ (Proj.head _ _ _))) hz0 (by kernel_rfl) rfl rfl rfl rfl ?_ | refine W_fieldC (d := 12) (sq_stepper (upC_cls hF)) (off := 4) (by kernel_rfl) rfl rfl rfl ?_)
  try any_goals (first | refine W_loadS (d := 13) (sq_stepper (upC_cls hF)) (by kernel_rfl) rfl rfl rfl ?_ | refine W_loadAC (d := 13) 0 (sq_stepper (upC_cls hF)) (vs := [v0x0, v1x0, v1x1, v1x2, v2x0]) (by kernel_rfl) rfl rfl rfl rfl rfl (zadd fun j u h => h) ?_)
  try any_goals ((refine W_ctG (d := 14) (sq_stepper (upC_cls hF)) (cq_toIntSS _ hf.d hf.a) (fun w' h => Nat.le_trans hs (Cls.ext h).size) rfl rfl rfl (by kernel_rfl) ?_))
  try any_goals (first | refine W_fieldG (d := 15) (sq_stepper (upC_cls hF)) (Proj.tail _ _ (Proj.tail _ _ (Proj.head _ _ _))) (by kernel_rfl) rfl rfl rfl ?_ | refine W_fieldRC (d := 15) 2 (sq_stepper (upC_cls hF)) (Proj.tail _ _ (Proj.tail _ _ (Proj.head _ _ _))) hz0 (by kernel_rfl) rfl rfl rfl rfl ?_ | refine W_fieldC (d := 15) (sq_stepper (upC_cls hF)) (off := 4) (by kernel_rfl) rfl rfl rfl ?_)
  try any_goals (refine Sq_storeE 0 (Ψ := (qS (fun b => s ≤ b) 39 (fII.P (fun b => s ≤ b)))) (by kernel_rfl) rfl rfl elem_Q rfl (Nat.le_of_ble_eq_true rfl) (by repeat (first | exact av_nil | exact av_I | exact av_B | exact av_Str | refine av_S (by decide) ?_ | refine av_cat ?_ ?_ | refine av_Q (by decide) ?_)) (by repeat (first | exact stF_true | exact stF_phi (by repeat (first | exact av_nil | exact av_I | exact av_B | exact av_Str | refine av_S (by decide) ?_ | refine av_cat ?_ ?_ | refine av_Q (by decide) ?_)) | refine stF_and ?_ ?_)) hF (fun vs hl hF => ?_); obtain ⟨v2x0, rfl⟩ := len1 hl)
  try any_goals (first | (refine Sq_nil ?_; try refine G_then ?_) | refine G_then ?_)
  try any_goals (first | (refine H_seq ?_; try refine H_reg ?_) | refine H_reg ?_)
  try any_goals (first | refine W_loadA (d := 16) (sq_stepper (upC_cls hF)) (by kernel_rfl) rfl rfl rfl ?_ | refine W_loadAC (d := 16) 0 (sq_stepper (upC_cls hF)) (vs := [v0x0, v1x0, v1x1, v1x2, v2x0]) (by kernel_rfl) rfl rfl rfl rfl rfl (zadd fun j u h => h) ?_)
  try any_goals (refine Sq_storeAg 1 (vs := [v0x0, v1x0, v1x1, v1x2, v2x0]) (by kernel_rfl) rfl rfl rfl (fun w' h => Phi.one ((fRos).P (fun b => s ≤ b)) b _ w' ⟨[v0x0], [v1x0, v1x1, v1x2, v2x0], rfl, h.1.1.2, [v1x0, v1x1, v1x2], [v2x0], rfl, h.1.2, [v2x0], [], rfl, h.2, rfl⟩) rfl (Nat.le_of_ble_eq_true rfl) (by repeat (first | exact stF_true | exact stF_phi (by repeat (first | exact av_nil | exact av_I | exact av_B | exact av_Str | refine av_S (by decide) ?_ | refine av_cat ?_ ?_ | refine av_Q (by decide) ?_)) | refine stF_and ?_ ?_)) ?_)
  try any_goals (first | (refine Sq_nil ?_; try refine G_then ?_) | refine G_then ?_)
  try any_goals (refine H_ret ?_)
  repeat (any_goals (first | refine G_ret_then ?_ | refine G_ret_block ?_))
  all_goals exact RcellC 1 rfl (by kernel_rfl) rfl rfl rfl (fun w' h => ⟨[v0x0, v1x0, v1x1, v1x2, v2x0], rfl, ⟨[v0x0], [v1x0, v1x1, v1x2, v2x0], rfl, h.fct.1.1.2, [v1x0, v1x1, v1x2], [v2x0], rfl, h.fct.1.2, [v2x0], [], rfl, h.fct.2, rfl⟩⟩)
theorem mx_SpanS : MKX Try.prog 38 (ShS fSpn.σ) 2097152 := by
  refine MKX_of Try.func38 rfl rfl rfl (fun w v S k hV hS hk => ?_)
  have hV0 := hV
  obtain ⟨A, n, c, rfl, hn, _⟩ := hV0
  have hC : UpC (Tn S w) := upC_tn
  try any_goals (first | (refine H_seq ?_; try refine H_reg ?_) | refine H_reg ?_)
  try any_goals (refine W_assign (d := 4) (sq_stepper hC) rfl rfl rfl ?_)
  try any_goals (first | (refine Sq_nil ?_; try refine G_then ?_) | refine G_then ?_)
  try any_goals (refine H_seq ?_)
  try any_goals (first | (refine H_seq ?_; try refine H_reg ?_) | refine H_reg ?_)
  try any_goals (refine W_assign (d := 5) (sq_stepper hC) rfl rfl rfl ?_)
  try any_goals (first | (refine Sq_nil ?_; try refine G_then ?_) | refine G_then ?_)
  try any_goals (refine H_block ?_)
  try any_goals ((refine H_loop (σ := Nat × Int) (fun x => x.1 ≤ n ∧ k ≤ x.2 ∧ x.2 ≤ k + 2 * x.1) (fun x => [(0, .inl (.slice A n c)), (1, .inl (.int .i64 x.2)), (5, .inl (.int .i64 x.1))]) (fun _ => Tn S w) (fun x => n - x.1) (0, k) ⟨Nat.zero_le _, by simp only; omega, by simp only; omega⟩ (fun a w h => h.sub (by repeat (first | exact trivial | refine ⟨⟨_, rfl, fun _ _ _ h => h⟩, ?_⟩ | refine ⟨⟨_, rfl, fun v w _ h => (show v = _ from h).trans (congrArg (Value.int .i64) (by first | omega | (dsimp only; omega)))⟩, ?_⟩)) fun _ h => h) (fun x hx => ?_); obtain ⟨i, m⟩ := x; obtain ⟨hi, hm1, hm2⟩ := hx; simp only at hi hm1 hm2))
  try any_goals (refine H_seq ?_)
  try any_goals (first | (refine H_seq ?_; try refine H_reg ?_) | refine H_reg ?_)
  try any_goals (refine W_move (d := 6) (sq_stepper hC) rfl rfl rfl ?_)
  try any_goals (refine W_move (d := 7) (sq_stepper hC) rfl rfl rfl ?_)
  try any_goals (first | refine W_len (d := 8) (sq_stepper hC) (by kernel_rfl) rfl rfl rfl ?_ | refine W_lenStr (d := 8) (sq_stepper hC) (by kernel_rfl) rfl rfl rfl ?_ | refine W_lenO (d := 8) (sq_stepper hC) (by kernel_rfl) rfl rfl rfl ?_)
  try any_goals (first | refine W_cmp (d := 9) (sq_stepper hC) rfl rfl rfl rfl rfl ?_ | refine W_strcmp (d := 9) (sq_stepper hC) rfl rfl rfl rfl rfl ?_)
  try any_goals (first | (refine Sq_nil ?_; try refine G_then ?_) | refine G_then ?_)
  try any_goals (first | refine H_condT rfl ?_ | refine H_condF rfl ?_ | (refine H_cond _ rfl (fun hq => ?_) (fun hq => ?_) <;> (try simp only [hqs, reduceCtorEq] at hq)))
  try any_goals (refine H_skip ?_)
  try any_goals (refine H_exit ?_)
  repeat (any_goals (first | refine G_exit_then ?_ | refine G_exit_here ?_ | refine G_exit_far rfl ?_))
  try any_goals (refine G_then ?_)
  try any_goals (refine H_seq ?_)
  try any_goals (refine H_block ?_)
  try any_goals (first | (refine H_seq ?_; try refine H_reg ?_) | refine H_reg ?_)
  try any_goals (refine W_move (d := 12) (sq_stepper hC) rfl rfl rfl ?_)
  try any_goals (refine W_move (d := 13) (sq_stepper hC) rfl rfl rfl ?_)
  try any_goals (refine W_move (d := 14) (sq_stepper hC) rfl rfl rfl ?_)
  try any_goals (first | refine W_index (d := 15) (sq_stepper hC) (by kernel_rfl) rfl rfl rfl rfl (by first | omega | (dsimp only; omega)) ?_ | refine W_indexO (d := 15) (s := Shp.k fSpn.σ) (sq_stepper hC) (by kernel_rfl) rfl rfl rfl rfl (by omega) ?_ | (obtain ⟨b, rfl⟩ := hV.some_ (by omega); refine W_indexO (d := 15) (s := Shp.k fSpn.σ) (sq_stepper hC) (by kernel_rfl) rfl rfl rfl rfl (by omega) ?_))
  try any_goals (first | refine W_fieldG (d := 16) (sq_stepper hC) (Proj.head _ _ _) (by kernel_rfl) rfl rfl rfl ?_ | refine W_fieldC (d := 16) (sq_stepper hC) (off := 0) (by kernel_rfl) rfl rfl rfl ?_ | refine W_fieldC (d := 16) (sq_stepper hC) (by kernel_rfl) rfl rfl rfl ?_)
  try any_goals ((refine Sq_storeT hV (i := i) (by omega) PrS.head (fun _ _ _ ⟨x, hx⟩ => ⟨_, hx, _, rfl⟩) rfl (by kernel_rfl) rfl (by first | rfl | (simp only [Int.toNat_natCast, Nat.add_zero]; rfl)) rfl ?_; have hC : UpC (Tn S w) := upC_tn))
  try any_goals (first | (refine Sq_nil ?_; try refine G_then ?_) | refine G_then ?_)
  try any_goals (first | (refine H_seq ?_; try refine H_reg ?_) | refine H_reg ?_)
  try any_goals (refine W_move (d := 17) (sq_stepper hC) rfl rfl rfl ?_)
  try any_goals (refine W_ar (d := 18) (sq_stepper hC) rfl rfl rfl rfl rfl (by first | omega | (dsimp only; omega)) ?_)
  try any_goals (refine W_assign (d := 1) (sq_stepper hC) rfl rfl rfl ?_)
  try any_goals (first | (refine Sq_nil ?_; try refine G_then ?_) | refine G_then ?_)
  try any_goals (first | (refine H_seq ?_; try refine H_reg ?_) | refine H_reg ?_)
  try any_goals (refine W_move (d := 19) (sq_stepper hC) rfl rfl rfl ?_)
  try any_goals (refine W_move (d := 20) (sq_stepper hC) rfl rfl rfl ?_)
  try any_goals (refine W_move (d := 21) (sq_stepper hC) rfl rfl rfl ?_)
  try any_goals (first | refine W_index (d := 22) (sq_stepper hC) (by kernel_rfl) rfl rfl rfl rfl (by first | omega | (dsimp only; omega)) ?_ | refine W_indexO (d := 22) (s := Shp.k fSpn.σ) (sq_stepper hC) (by kernel_rfl) rfl rfl rfl rfl (by omega) ?_ | (obtain ⟨b, rfl⟩ := hV.some_ (by omega); refine W_indexO (d := 22) (s := Shp.k fSpn.σ) (sq_stepper hC) (by kernel_rfl) rfl rfl rfl rfl (by omega) ?_))
  try any_goals (first | refine W_fieldG (d := 23) (sq_stepper hC) (Proj.tail _ _ (Proj.head _ _ _)) (by kernel_rfl) rfl rfl rfl ?_ | refine W_fieldC (d := 23) (sq_stepper hC) (off := 1) (by kernel_rfl) rfl rfl rfl ?_ | refine W_fieldC (d := 23) (sq_stepper hC) (by kernel_rfl) rfl rfl rfl ?_)
  try any_goals ((refine Sq_storeT hV (i := i) (by omega) (PrS.tail PrS.head) (fun _ _ _ ⟨x, hx⟩ => ⟨_, hx, _, rfl⟩) rfl (by kernel_rfl) rfl (by first | rfl | (simp only [Int.toNat_natCast, Nat.add_zero]; rfl)) rfl ?_; have hC : UpC (Tn S w) := upC_tn))
  try any_goals (first | (refine Sq_nil ?_; try refine G_then ?_) | refine G_then ?_)
  try any_goals (refine H_reg ?_)
  try any_goals (refine W_move (d := 24) (sq_stepper hC) rfl rfl rfl ?_)
  try any_goals (refine W_ar (d := 25) (sq_stepper hC) rfl rfl rfl rfl rfl (by first | omega | (dsimp only; omega)) ?_)
  try any_goals (refine W_assign (d := 1) (sq_stepper hC) rfl rfl rfl ?_)
  try any_goals (refine Sq_nil ?_)
  repeat (any_goals (first | refine G_exit_then ?_ | refine G_exit_here ?_ | refine G_exit_far rfl ?_ | refine G_normal_block ?_))
  try any_goals (refine G_then ?_)
  try any_goals (refine H_reg ?_)
  try any_goals (refine W_move (d := 10) (sq_stepper hC) rfl rfl rfl ?_)
  try any_goals (refine W_ar (d := 11) (sq_stepper hC) rfl rfl rfl rfl rfl (by first | omega | (dsimp only; omega)) ?_)
  try any_goals (refine W_assign (d := 5) (sq_stepper hC) rfl rfl rfl ?_)
  try any_goals (refine Sq_nil ?_)
  try any_goals (refine G_again (i + 1, m + 1 + 1) ⟨by simp only; omega, by simp only; omega, by simp only; omega⟩ (by simp only; omega) (by repeat (first | exact trivial | refine ⟨⟨_, rfl, fun _ _ _ h => h⟩, ?_⟩ | refine ⟨⟨_, rfl, fun v w _ h => (show v = _ from h).trans (congrArg (Value.int .i64) (by first | omega | (dsimp only; omega)))⟩, ?_⟩)) (fun _ h => h))
  repeat (any_goals (first | refine G_exit_then ?_ | refine G_exit_here ?_ | refine G_exit_far rfl ?_ | refine G_normal_block ?_))
  try any_goals (refine G_then ?_)
  try any_goals (first | (refine H_seq ?_; try refine H_reg ?_) | refine H_reg ?_)
  try any_goals (refine W_move (d := 26) (sq_stepper hC) rfl rfl rfl ?_)
  try any_goals (refine W_assign (d := 4) (sq_stepper hC) rfl rfl rfl ?_)
  try any_goals (first | (refine Sq_nil ?_; try refine G_then ?_) | refine G_then ?_)
  try any_goals (refine H_ret ?_)
  repeat (any_goals (first | refine G_ret_then ?_ | refine G_ret_block ?_))
  all_goals exact R_mkx rfl rfl (by omega) (fun _ h => h)
theorem mx_Ros : MKX Try.prog 11 (ShA fRos.σ) 1099513724928 := by
  refine MKX_of Try.func11 rfl rfl rfl (fun w v S k hV hS hk => ?_)
  obtain ⟨cs, rfl, hφ⟩ := hV
  obtain ⟨_, _, rfl, ⟨u0, rfl, hu0⟩, _, _, rfl, ⟨_, _, rfl, ⟨u1, rfl⟩, _, _, rfl, ⟨u2, rfl⟩, _, _, rfl, ⟨u3, rfl⟩, rfl⟩, _, _, rfl, ⟨u4, rfl, hu4⟩, rfl⟩ := hφ
  have hC : UpC (Tn S w) := upC_tn
  refine H_keep [(0, .inl (.agg (([u0, (Value.int .i64 u1), (Value.int .i64 u2), (Value.int .i64 u3), u4] : List Value)).toArray)), (1, .inl (.int .i64 k))] (by repeat (first | exact trivial | refine ⟨⟨_, rfl, fun _ _ _ h => h⟩, ?_⟩ | refine ⟨⟨_, rfl, fun v w _ h => (show v = _ from h).trans (congrArg (Value.int .i64) (by first | omega | (dsimp only; omega)))⟩, ?_⟩)) ?_
  try any_goals (first | (refine H_seq ?_; try refine H_reg ?_) | refine H_reg ?_)
  try any_goals (first | refine W_boxA (d := 2) (sq_stepper hC) rfl rfl rfl ?_ | refine W_boxT (d := 2) (sq_stepper hC) (cs := [u0, (Value.int .i64 u1), (Value.int .i64 u2), (Value.int .i64 u3), u4]) (s := w.heap.size) (fun w' h => h.keep.size) rfl rfl rfl ?_)
  try any_goals (refine W_assign (d := 4) (sq_stepper hC) rfl rfl rfl ?_)
  try any_goals (first | (refine Sq_nil ?_; try refine G_then ?_) | refine G_then ?_)
  try any_goals (refine H_seq ?_)
  try any_goals (refine H_open 2 rfl (fun wr v1 hw hv1 => ?_); obtain ⟨g, rfl, hg, hbk⟩ := hv1; refine H_weakenC (C' := Tn S wr) (fun w' h => Tn.of_ext h) ?_; have hu0 := hu0.up hw; have hu4 := hu4.up hw; have hS1 : ∀ b, S b → b < wr.heap.size := fun b hb => Nat.lt_of_lt_of_le (hS b hb) hw.keep.size; have hcg := fun (w' : World) (h : Tn S wr w') => h.keep.blk hbk (fun hs => absurd (hS g hs) (by omega)); have hC : UpC (Tn S wr) := upC_tn)
  try any_goals (refine H_reg ?_)
  try any_goals (first | refine W_fieldG (d := 5) (sq_stepper hC) (Proj.head _ _ _) (by kernel_rfl) rfl rfl rfl ?_ | refine W_fieldC (d := 5) (sq_stepper hC) (off := 0) (by kernel_rfl) rfl rfl rfl ?_)
  try any_goals (first | refine W_loadS (d := 6) (sq_stepper hC) (by kernel_rfl) rfl rfl rfl ?_ | refine W_loadO (d := 6) (sq_stepper hC) (by kernel_rfl) rfl rfl rfl (fun w' h => (hcg w' h).cell rfl) ?_)
  try any_goals (refine W_move (d := 7) (sq_stepper hC) rfl rfl rfl ?_)
  try any_goals (first | (refine Sq_callM (k := k) mx_SpanS rfl (fun v w' h hv => by rw [show v = _ from hv]; exact hu0.up h) hS1 rfl rfl (by omega) (by kernel_rfl) (fun k0 hk0 => ?_); have hC : UpC (Tn S wr) := upC_tn) | (refine Sq_callM (k := k0) mx_IntSS rfl (fun v w' h hv => by rw [show v = _ from hv]; exact hu4.up h) hS1 rfl rfl (by omega) (by kernel_rfl) (fun k1 hk1 => ?_); have hC : UpC (Tn S wr) := upC_tn))
  try any_goals (refine W_assign (d := 1) (sq_stepper hC) rfl rfl rfl ?_)
  try any_goals (first | (refine Sq_nil ?_; try refine G_then ?_) | refine G_then ?_)
  try any_goals (first | (refine H_seq ?_; try refine H_reg ?_) | refine H_reg ?_)
  try any_goals (first | refine W_fieldG (d := 9) (sq_stepper hC) (Proj.tail _ _ (Proj.tail _ _ (Proj.head _ _ _))) (by kernel_rfl) rfl rfl rfl ?_ | refine W_fieldC (d := 9) (sq_stepper hC) (off := 4) (by kernel_rfl) rfl rfl rfl ?_)
  try any_goals (first | refine W_loadS (d := 10) (sq_stepper hC) (by kernel_rfl) rfl rfl rfl ?_ | refine W_loadO (d := 10) (sq_stepper hC) (by kernel_rfl) rfl rfl rfl (fun w' h => (hcg w' h).cell rfl) ?_)
  try any_goals (refine W_move (d := 11) (sq_stepper hC) rfl rfl rfl ?_)
  try any_goals (first | (refine Sq_callM (k := k) mx_SpanS rfl (fun v w' h hv => by rw [show v = _ from hv]; exact hu0.up h) hS1 rfl rfl (by omega) (by kernel_rfl) (fun k0 hk0 => ?_); have hC : UpC (Tn S wr) := upC_tn) | (refine Sq_callM (k := k0) mx_IntSS rfl (fun v w' h hv => by rw [show v = _ from hv]; exact hu4.up h) hS1 rfl rfl (by omega) (by kernel_rfl) (fun k1 hk1 => ?_); have hC : UpC (Tn S wr) := upC_tn))
  try any_goals (refine W_assign (d := 1) (sq_stepper hC) rfl rfl rfl ?_)
  try any_goals (first | (refine Sq_nil ?_; try refine G_then ?_) | refine G_then ?_)
  try any_goals (first | (refine H_seq ?_; try refine H_reg ?_) | refine H_reg ?_)
  try any_goals (refine W_move (d := 13) (sq_stepper hC) rfl rfl rfl ?_)
  try any_goals (refine W_assign (d := 4) (sq_stepper hC) rfl rfl rfl ?_)
  try any_goals (first | (refine Sq_nil ?_; try refine G_then ?_) | refine G_then ?_)
  try any_goals (refine H_ret ?_)
  repeat (any_goals (first | refine G_ret_then ?_ | refine G_ret_block ?_))
  all_goals exact R_mkx rfl rfl (by omega) (fun _ h => hw.trans h)
end Go.Proofs.Ytanlaggnhocjhaa
namespace Go.Proofs.Ytanlaggnhocjhaa
open Go.RowKit Go.ChangeShapes Go.WideShapes Go.ChangeAt Go.Deep
def numSpanS (q : Int) : Spn := ⟨q + ((0 : Nat) : Int), q + ((1 : Nat) : Int)⟩
theorem mk_SpanS (xs : List Spn) (k : Int) (hk : 0 ≤ k ∧ k + 2 * xs.length ≤ 4611686018427387904) : MK Try.prog 38 oSpanS xs k (numL numSpanS 2 k xs.length) (k + 2 * xs.length) := by
  refine MK_of Try.func38 rfl rfl rfl (fun w v S hR => ?_)
  obtain ⟨A, n, c, cs, ⟨ad, rfl, had⟩, rfl, hnc, hcm, hcl, hb, hS, hA, hls⟩ := hR
  refine H_weakenC (C' := NumC w S A 71 (fun _ => true) 2 k (c * 2) 0) (fun w' h => by subst h; exact ⟨Keep.refl _, cs, hb, hcl, fun j hj => absurd hj (Nat.not_lt_zero _)⟩) ?_
  have hC : UpC (NumC w S A 71 (fun _ => true) 2 k (c * 2) 0) := upC_num
  try any_goals (first | (refine H_seq ?_; try refine H_reg ?_) | refine H_reg ?_)
  try any_goals (refine W_assign (d := 4) (sq_stepper hC) rfl rfl rfl ?_)
  try any_goals (first | (refine Sq_nil ?_; try refine G_then ?_) | refine G_then ?_)
  try any_goals (refine H_seq ?_)
  try any_goals (first | (refine H_seq ?_; try refine H_reg ?_) | refine H_reg ?_)
  try any_goals (refine W_assign (d := 5) (sq_stepper hC) rfl rfl rfl ?_)
  try any_goals (first | (refine Sq_nil ?_; try refine G_then ?_) | refine G_then ?_)
  try any_goals (refine H_block ?_)
  try any_goals ((refine H_loop (σ := Nat × Int) (fun x => x.1 ≤ xs.length ∧ x.2 = k + 2 * x.1) (fun x => [(0, .inl (.slice ad xs.length c)), (1, .inl (.int .i64 x.2)), (5, .inl (.int .i64 x.1))]) (fun x => NumC w S A 71 (fun _ => true) 2 k (c * 2) (x.1 * 2)) (fun x => xs.length - x.1) (0, k) ⟨Nat.zero_le _, by simp only; omega⟩ (fun a w' h => h.sub (by repeat (first | exact trivial | refine ⟨⟨_, rfl, fun _ _ _ h => h⟩, ?_⟩ | refine ⟨⟨_, rfl, fun v w _ h => (show v = _ from h).trans (congrArg (Value.int .i64) (by first | omega | (dsimp only; omega)))⟩, ?_⟩)) (fun w' h => by simpa using h)) (fun x hx => ?_); obtain ⟨i, kk⟩ := x; obtain ⟨hi, hkk⟩ := hx; simp only at hi hkk; have hC : UpC (NumC w S A 71 (fun _ => true) 2 k (c * 2) (i * 2)) := upC_num))
  try any_goals (refine H_seq ?_)
  try any_goals (first | (refine H_seq ?_; try refine H_reg ?_) | refine H_reg ?_)
  try any_goals (refine W_move (d := 6) (sq_stepper hC) rfl rfl rfl ?_)
  try any_goals (refine W_move (d := 7) (sq_stepper hC) rfl rfl rfl ?_)
  try any_goals (first | refine W_len (d := 8) (sq_stepper hC) (by kernel_rfl) rfl rfl rfl ?_ | refine W_lenStr (d := 8) (sq_stepper hC) (by kernel_rfl) rfl rfl rfl ?_ | refine W_lenO (d := 8) (sq_stepper hC) (by kernel_rfl) rfl rfl rfl ?_)
  try any_goals (first | refine W_cmp (d := 9) (sq_stepper hC) rfl rfl rfl rfl rfl ?_ | refine W_strcmp (d := 9) (sq_stepper hC) rfl rfl rfl rfl rfl ?_)
  try any_goals (first | (refine Sq_nil ?_; try refine G_then ?_) | refine G_then ?_)
  try any_goals (first | refine H_condT rfl ?_ | refine H_condF rfl ?_ | (refine H_cond _ rfl (fun hq => ?_) (fun hq => ?_) <;> (try simp only [hqs, reduceCtorEq] at hq)))
  try any_goals (first | ((have hsome := some_of hA hq; obtain ⟨b, rfl⟩ := hsome; obtain rfl := had.some_)) | skip)
  try any_goals (refine H_skip ?_)
  try any_goals (refine H_exit ?_)
  repeat (any_goals (first | refine G_exit_then ?_ | refine G_exit_here ?_ | refine G_exit_far rfl ?_))
  try any_goals (refine G_then ?_)
  try any_goals (refine H_seq ?_)
  try any_goals (refine H_block ?_)
  try any_goals (first | (refine H_seq ?_; try refine H_reg ?_) | refine H_reg ?_)
  try any_goals (refine W_move (d := 12) (sq_stepper hC) rfl rfl rfl ?_)
  try any_goals (refine W_move (d := 13) (sq_stepper hC) rfl rfl rfl ?_)
  try any_goals (refine W_move (d := 14) (sq_stepper hC) rfl rfl rfl ?_)
  try any_goals (first | refine W_index (d := 15) (sq_stepper hC) (by kernel_rfl) rfl rfl rfl rfl (by first | omega | (dsimp only; omega)) ?_ | refine W_indexO (d := 15) (s := 2) (sq_stepper hC) (by kernel_rfl) rfl rfl rfl rfl (by omega) ?_)
  try any_goals (first | refine W_fieldG (d := 16) (sq_stepper hC) (Proj.head _ _ _) (by kernel_rfl) rfl rfl rfl ?_ | refine W_fieldC (d := 16) (sq_stepper hC) (off := 0) (by kernel_rfl) rfl rfl rfl ?_)
  try any_goals (refine Sq_storeN (p := i * 2 + 0) (hS _ rfl) (by kernel_rfl) rfl rfl (by first | omega | (simp only [Int.toNat_natCast]; omega) | simp) (by have := mul_far (k := 2) (show i < xs.length by omega); have := Nat.mul_le_mul_right 2 hnc; omega) (by unfold numV; first | (simp only []; congr 1; omega) | (congr 1; omega)) ?_; have hC : UpC (NumC w S (some b) 71 (fun _ => true) 2 k (c * 2) (i * 2 + 0 + 1)) := upC_num)
  try any_goals (first | (refine Sq_nil ?_; try refine G_then ?_) | refine G_then ?_)
  try any_goals (first | (refine H_seq ?_; try refine H_reg ?_) | refine H_reg ?_)
  try any_goals (refine W_move (d := 17) (sq_stepper hC) rfl rfl rfl ?_)
  try any_goals (refine W_ar (d := 18) (sq_stepper hC) rfl rfl rfl rfl rfl (by first | omega | (dsimp only; omega)) ?_)
  try any_goals (refine W_assign (d := 1) (sq_stepper hC) rfl rfl rfl ?_)
  try any_goals (first | (refine Sq_nil ?_; try refine G_then ?_) | refine G_then ?_)
  try any_goals (first | (refine H_seq ?_; try refine H_reg ?_) | refine H_reg ?_)
  try any_goals (refine W_move (d := 19) (sq_stepper hC) rfl rfl rfl ?_)
  try any_goals (refine W_move (d := 20) (sq_stepper hC) rfl rfl rfl ?_)
  try any_goals (refine W_move (d := 21) (sq_stepper hC) rfl rfl rfl ?_)
  try any_goals (first | refine W_index (d := 22) (sq_stepper hC) (by kernel_rfl) rfl rfl rfl rfl (by first | omega | (dsimp only; omega)) ?_ | refine W_indexO (d := 22) (s := 2) (sq_stepper hC) (by kernel_rfl) rfl rfl rfl rfl (by omega) ?_)
  try any_goals (first | refine W_fieldG (d := 23) (sq_stepper hC) (Proj.tail _ _ (Proj.head _ _ _)) (by kernel_rfl) rfl rfl rfl ?_ | refine W_fieldC (d := 23) (sq_stepper hC) (off := 1) (by kernel_rfl) rfl rfl rfl ?_)
  try any_goals (refine Sq_storeN (p := i * 2 + 1) (hS _ rfl) (by kernel_rfl) rfl rfl (by first | omega | (simp only [Int.toNat_natCast]; omega) | simp) (by have := mul_far (k := 2) (show i < xs.length by omega); have := Nat.mul_le_mul_right 2 hnc; omega) (by unfold numV; first | (simp only []; congr 1; omega) | (congr 1; omega)) ?_; have hC : UpC (NumC w S (some b) 71 (fun _ => true) 2 k (c * 2) (i * 2 + 1 + 1)) := upC_num)
  try any_goals (first | (refine Sq_nil ?_; try refine G_then ?_) | refine G_then ?_)
  try any_goals (refine H_reg ?_)
  try any_goals (refine W_move (d := 24) (sq_stepper hC) rfl rfl rfl ?_)
  try any_goals (refine W_ar (d := 25) (sq_stepper hC) rfl rfl rfl rfl rfl (by first | omega | (dsimp only; omega)) ?_)
  try any_goals (refine W_assign (d := 1) (sq_stepper hC) rfl rfl rfl ?_)
  try any_goals (refine Sq_nil ?_)
  repeat (any_goals (first | refine G_exit_then ?_ | refine G_exit_here ?_ | refine G_exit_far rfl ?_ | refine G_normal_block ?_))
  try any_goals (refine G_then ?_)
  try any_goals (refine H_reg ?_)
  try any_goals (refine W_move (d := 10) (sq_stepper hC) rfl rfl rfl ?_)
  try any_goals (refine W_ar (d := 11) (sq_stepper hC) rfl rfl rfl rfl rfl (by first | omega | (dsimp only; omega)) ?_)
  try any_goals (refine W_assign (d := 5) (sq_stepper hC) rfl rfl rfl ?_)
  try any_goals (refine Sq_nil ?_)
  try any_goals (refine G_again (i + 1, _) ⟨by simp only; omega, ?_⟩ (by simp only; omega) (by repeat (first | exact trivial | refine ⟨⟨_, rfl, fun _ _ _ h => h⟩, ?_⟩ | refine ⟨⟨_, rfl, fun v w _ h => (show v = _ from h).trans (congrArg (Value.int .i64) (by first | omega | (dsimp only; omega)))⟩, ?_⟩)) (fun w' h => by rw [show ((i + 1, kk) : Nat × Int).1 * 2 = i * 2 + 2 by simp only; omega]; exact h))
  repeat (any_goals (first | refine G_exit_then ?_ | refine G_exit_here ?_ | refine G_exit_far rfl ?_ | refine G_normal_block ?_))
  try any_goals (refine G_then ?_)
  try any_goals (first | (refine H_seq ?_; try refine H_reg ?_) | refine H_reg ?_)
  try any_goals (refine W_move (d := 26) (sq_stepper hC) rfl rfl rfl ?_)
  try any_goals (refine W_assign (d := 4) (sq_stepper hC) rfl rfl rfl ?_)
  try any_goals (first | (refine Sq_nil ?_; try refine G_then ?_) | refine G_then ?_)
  try any_goals (refine H_ret ?_)
  repeat (any_goals (first | refine G_ret_then ?_ | refine G_ret_block ?_))
  all_goals (try dsimp only)
  all_goals first
    | omega
    | exact R_mk rfl rfl (by omega) (fun w' h => num_OS (Ψ := pSpn) (mk := numSpanS) (kd := (fun _ => true)) (p := i * 2) rfl (fun q w => ⟨[_], _, rfl, rfl, [_], _, rfl, rfl, rfl⟩) (by first | exact had | exact .inl rfl) hS (fun e => by rw [hA e]; rfl) hnc hcm (Nat.mul_le_mul_right 2 (by omega)) h)
theorem hd_SpanS {e : Option TypeId} (k : Int) (n : Nat) (hk : 0 ≤ k ∧ k + 2 * n ≤ 4611686018427387904) : CT Try.prog 40 [.inr (uS e pSpn (numL numSpanS 2 k n)), .inl (.int .i64 k)] (.inl (.int .i64 (k + 2 * n))) := by
  refine CT_of Try.func40 rfl rfl rfl (fun w => ?_)
  have hC := upC_ext w
  have hln : ((numL numSpanS 2 k n).length : Int) = n := by rw [numL_length]
  try any_goals (first | (refine H_seq ?_; try refine H_reg ?_) | refine H_reg ?_)
  try any_goals (refine W_assign (d := 4) (sq_stepper hC) rfl rfl rfl ?_)
  try any_goals (first | (refine Sq_nil ?_; try refine G_then ?_) | refine G_then ?_)
  try any_goals (refine H_seq ?_)
  try any_goals (first | (refine H_seq ?_; try refine H_reg ?_) | refine H_reg ?_)
  try any_goals (refine W_assign (d := 5) (sq_stepper hC) rfl rfl rfl ?_)
  try any_goals (first | (refine Sq_nil ?_; try refine G_then ?_) | refine G_then ?_)
  try any_goals (refine H_block ?_)
  try any_goals ((refine H_loop (σ := Nat × Int) (fun x => x.1 ≤ n ∧ x.2 = k + 2 * x.1) (fun x => [(0, .inr (uS e pSpn (numL numSpanS 2 k n))), (1, .inl (.int .i64 x.2)), (5, .inl (.int .i64 x.1))]) (fun _ => Ext w) (fun x => n - x.1) (0, k) ⟨Nat.zero_le _, by simp only; omega⟩ (fun a w' h => h.sub (by repeat (first | exact trivial | refine ⟨⟨_, rfl, fun _ _ _ h => h⟩, ?_⟩ | refine ⟨⟨_, rfl, fun v w _ h => (show v = _ from h).trans (congrArg (Value.int .i64) (by first | omega | (dsimp only; omega)))⟩, ?_⟩)) (fun w' h => h)) (fun x hx => ?_); obtain ⟨i, kk⟩ := x; obtain ⟨hi, hkk⟩ := hx; simp only at hi hkk))
  try any_goals (refine H_seq ?_)
  try any_goals (first | (refine H_seq ?_; try refine H_reg ?_) | refine H_reg ?_)
  try any_goals (refine W_move (d := 6) (sq_stepper hC) rfl rfl rfl ?_)
  try any_goals (refine W_move (d := 7) (sq_stepper hC) rfl rfl rfl ?_)
  try any_goals (first | refine W_len (d := 8) (sq_stepper hC) (by kernel_rfl) rfl rfl rfl ?_ | refine W_lenStr (d := 8) (sq_stepper hC) (by kernel_rfl) rfl rfl rfl ?_)
  try any_goals (first | refine W_cmp (d := 9) (sq_stepper hC) rfl rfl rfl rfl rfl ?_ | refine W_strcmp (d := 9) (sq_stepper hC) rfl rfl rfl rfl rfl ?_)
  try any_goals (first | (refine Sq_nil ?_; try refine G_then ?_) | refine G_then ?_)
  try any_goals (first | refine H_condT rfl ?_ | refine H_condF rfl ?_ | (refine H_cond _ rfl (fun hq => ?_) (fun hq => ?_) <;> (try simp only [hqs, reduceCtorEq] at hq)))
  try any_goals (first | ((have hix := ix_num (mk := numSpanS) (m := 2) (k := k) (n := n) (i := i) (by omega))) | skip)
  try any_goals (first | ((exfalso; simp only [hix, numSpanS] at hq; omega)) | skip)
  try any_goals (first | ((exfalso; simp only [hix, numSpanS, hkk] at hq; simp at hq; done)) | skip)
  try any_goals (refine H_skip ?_)
  try any_goals (refine H_exit ?_)
  repeat (any_goals (first | refine G_exit_then ?_ | refine G_exit_here ?_ | refine G_exit_far rfl ?_))
  try any_goals (refine G_then ?_)
  try any_goals (refine H_seq ?_)
  try any_goals (refine H_block ?_)
  try any_goals (refine H_seq ?_)
  try any_goals (first | (refine H_seq ?_; try refine H_reg ?_) | refine H_reg ?_)
  try any_goals (refine W_move (d := 12) (sq_stepper hC) rfl rfl rfl ?_)
  try any_goals (refine W_move (d := 13) (sq_stepper hC) rfl rfl rfl ?_)
  try any_goals (refine W_index (d := 14) (sq_stepper hC) (by kernel_rfl) rfl rfl rfl rfl (by first | omega | (dsimp only; omega)) ?_)
  try any_goals (first | refine W_fieldG (d := 15) (sq_stepper hC) (Proj.head _ _ _) (by kernel_rfl) rfl rfl rfl ?_ | refine W_fieldC (d := 15) (sq_stepper hC) (off := 0) (by kernel_rfl) rfl rfl rfl ?_)
  try any_goals (refine W_loadI (d := 16) (sq_stepper hC) (by kernel_rfl) rfl rfl rfl ?_)
  try any_goals (refine W_move (d := 17) (sq_stepper hC) rfl rfl rfl ?_)
  try any_goals (first | refine W_cmp (d := 18) (sq_stepper hC) rfl rfl rfl rfl rfl ?_ | refine W_neqStr (d := 18) (sq_stepper hC) rfl rfl rfl rfl ?_ | refine W_neqB (d := 18) (sq_stepper hC) rfl rfl Try.underlying4 rfl rfl ?_)
  try any_goals (first | (refine Sq_nil ?_; try refine G_then ?_) | refine G_then ?_)
  try any_goals (first | refine H_condT rfl ?_ | refine H_condF rfl ?_ | (refine H_cond _ rfl (fun hq => ?_) (fun hq => ?_) <;> (try simp only [hqs, reduceCtorEq] at hq)))
  try any_goals (first | ((have hix := ix_num (mk := numSpanS) (m := 2) (k := k) (n := n) (i := i) (by omega))) | skip)
  try any_goals (first | ((exfalso; simp only [hix, numSpanS] at hq; omega)) | skip)
  try any_goals (first | ((exfalso; simp only [hix, numSpanS, hkk] at hq; simp at hq; done)) | skip)
  try any_goals (first | (refine H_seq ?_; try refine H_reg ?_) | refine H_reg ?_)
  try any_goals (refine W_assign (d := 4) (sq_stepper hC) rfl rfl rfl ?_)
  try any_goals (first | (refine Sq_nil ?_; try refine G_then ?_) | refine G_then ?_)
  try any_goals (refine H_ret ?_)
  repeat (any_goals (first | refine G_ret_then ?_ | refine G_ret_block ?_))
  try any_goals (refine H_skip ?_)
  try any_goals (refine G_then ?_)
  try any_goals (first | (refine H_seq ?_; try refine H_reg ?_) | refine H_reg ?_)
  try any_goals (refine W_move (d := 19) (sq_stepper hC) rfl rfl rfl ?_)
  try any_goals (refine W_ar (d := 20) (sq_stepper hC) rfl rfl rfl rfl rfl (by first | omega | (dsimp only; omega)) ?_)
  try any_goals (refine W_assign (d := 1) (sq_stepper hC) rfl rfl rfl ?_)
  try any_goals (first | (refine Sq_nil ?_; try refine G_then ?_) | refine G_then ?_)
  try any_goals (refine H_seq ?_)
  try any_goals (first | (refine H_seq ?_; try refine H_reg ?_) | refine H_reg ?_)
  try any_goals (refine W_move (d := 21) (sq_stepper hC) rfl rfl rfl ?_)
  try any_goals (refine W_move (d := 22) (sq_stepper hC) rfl rfl rfl ?_)
  try any_goals (refine W_index (d := 23) (sq_stepper hC) (by kernel_rfl) rfl rfl rfl rfl (by first | omega | (dsimp only; omega)) ?_)
  try any_goals (first | refine W_fieldG (d := 24) (sq_stepper hC) (Proj.tail _ _ (Proj.head _ _ _)) (by kernel_rfl) rfl rfl rfl ?_ | refine W_fieldC (d := 24) (sq_stepper hC) (off := 1) (by kernel_rfl) rfl rfl rfl ?_)
  try any_goals (refine W_loadI (d := 25) (sq_stepper hC) (by kernel_rfl) rfl rfl rfl ?_)
  try any_goals (refine W_move (d := 26) (sq_stepper hC) rfl rfl rfl ?_)
  try any_goals (first | refine W_cmp (d := 27) (sq_stepper hC) rfl rfl rfl rfl rfl ?_ | refine W_neqStr (d := 27) (sq_stepper hC) rfl rfl rfl rfl ?_ | refine W_neqB (d := 27) (sq_stepper hC) rfl rfl Try.underlying4 rfl rfl ?_)
  try any_goals (first | (refine Sq_nil ?_; try refine G_then ?_) | refine G_then ?_)
  try any_goals (first | refine H_condT rfl ?_ | refine H_condF rfl ?_ | (refine H_cond _ rfl (fun hq => ?_) (fun hq => ?_) <;> (try simp only [hqs, reduceCtorEq] at hq)))
  try any_goals (first | ((have hix := ix_num (mk := numSpanS) (m := 2) (k := k) (n := n) (i := i) (by omega))) | skip)
  try any_goals (first | ((exfalso; simp only [hix, numSpanS] at hq; omega)) | skip)
  try any_goals (first | ((exfalso; simp only [hix, numSpanS, hkk] at hq; simp at hq; done)) | skip)
  try any_goals (first | (refine H_seq ?_; try refine H_reg ?_) | refine H_reg ?_)
  try any_goals (refine W_assign (d := 4) (sq_stepper hC) rfl rfl rfl ?_)
  try any_goals (first | (refine Sq_nil ?_; try refine G_then ?_) | refine G_then ?_)
  try any_goals (refine H_ret ?_)
  repeat (any_goals (first | refine G_ret_then ?_ | refine G_ret_block ?_))
  try any_goals (refine H_skip ?_)
  try any_goals (refine G_then ?_)
  try any_goals (refine H_reg ?_)
  try any_goals (refine W_move (d := 28) (sq_stepper hC) rfl rfl rfl ?_)
  try any_goals (refine W_ar (d := 29) (sq_stepper hC) rfl rfl rfl rfl rfl (by first | omega | (dsimp only; omega)) ?_)
  try any_goals (refine W_assign (d := 1) (sq_stepper hC) rfl rfl rfl ?_)
  try any_goals (refine Sq_nil ?_)
  repeat (any_goals (first | refine G_exit_then ?_ | refine G_exit_here ?_ | refine G_exit_far rfl ?_ | refine G_normal_block ?_))
  try any_goals (refine G_then ?_)
  try any_goals (refine H_reg ?_)
  try any_goals (refine W_move (d := 10) (sq_stepper hC) rfl rfl rfl ?_)
  try any_goals (refine W_ar (d := 11) (sq_stepper hC) rfl rfl rfl rfl rfl (by first | omega | (dsimp only; omega)) ?_)
  try any_goals (refine W_assign (d := 5) (sq_stepper hC) rfl rfl rfl ?_)
  try any_goals (refine Sq_nil ?_)
  try any_goals (refine G_again (i + 1, _) ⟨by simp only; omega, ?_⟩ (by simp only; omega) (by repeat (first | exact trivial | refine ⟨⟨_, rfl, fun _ _ _ h => h⟩, ?_⟩ | refine ⟨⟨_, rfl, fun v w _ h => (show v = _ from h).trans (congrArg (Value.int .i64) (by first | omega | (dsimp only; omega)))⟩, ?_⟩)) (fun w' h => h))
  repeat (any_goals (first | refine G_exit_then ?_ | refine G_exit_here ?_ | refine G_exit_far rfl ?_ | refine G_normal_block ?_))
  try any_goals (refine G_then ?_)
  try any_goals (first | (refine H_seq ?_; try refine H_reg ?_) | refine H_reg ?_)
  try any_goals (refine W_move (d := 30) (sq_stepper hC) rfl rfl rfl ?_)
  try any_goals (refine W_assign (d := 4) (sq_stepper hC) rfl rfl rfl ?_)
  try any_goals (first | (refine Sq_nil ?_; try refine G_then ?_) | refine G_then ?_)
  try any_goals (refine H_ret ?_)
  repeat (any_goals (first | refine G_ret_then ?_ | refine G_ret_block ?_))
  all_goals (try dsimp only)
  all_goals first
    | omega
    | exact R1v rfl (fun _ h => h) rfl (by congr 1; omega)
def oRos : Ow Ros := ⟨fun r S v w => ∃ vS vD S1 S2, v = .agg (rsC r vS vD).toArray ∧ OS 71 pSpn r.S S1 vS w ∧ oR.R r.D S2 vD w ∧ (∀ b, S1 b → S b) ∧ (∀ b, S2 b → S b) ∧ ∀ b, S1 b → S2 b → False,
  fun r S T v w w' ⟨vS, vD, S1, S2, h1, h2, h3, h4, h5, h6⟩ hk hd => ⟨vS, vD, S1, S2, h1, (oF _ pSpn flSpn).keep _ _ _ _ _ _ h2 hk (fun b hb ht => hd b (h4 b hb) ht), oR.keep _ _ _ _ _ _ h3 hk (fun b hb ht => hd b (h5 b hb) ht), h4, h5, h6⟩⟩
theorem oRos_isA {r : Ros} {S : Nat → Prop} {v : Value} {w : World} (h : oRos.R r S v w) : (uA bRos r).R v w := by
  obtain ⟨vS, vD, S1, S2, h1, h2, h3, _⟩ := h
  exact ⟨rsC r vS vD, h1, [vS], _, rfl, ⟨_, rfl, h2.isS⟩, [.int .i64 r.R.A, .int .i64 r.R.B, .int .i64 r.R.C], _, rfl, pRul_i _ _, [vD], _, rfl, ⟨_, rfl, oR_isS h3⟩, rfl⟩
theorem oRos_cells {r : Ros} {S : Nat → Prop} {v : Value} {w : World} (h : oRos.R r S v w) : ∃ cs : List Value, v = .agg cs.toArray ∧ cs.length = 5 ∧ ∀ u ∈ cs, u.oneCell' = true := by
  obtain ⟨vS, vD, S1, S2, h1, h2, h3, _⟩ := h
  obtain ⟨vs, S0, Sr, hr, _⟩ := h3
  obtain ⟨A, n, c, cs, ⟨p, e1, _⟩, _⟩ := h2
  obtain ⟨A2, n2, c2, cs2, ⟨p2, e2, _⟩, _⟩ := hr.o
  exact ⟨rsC r vS vD, h1, rfl, rsC_one (by rw [e1]; rfl) (by rw [e2]; rfl)⟩
theorem oRos_nil {s : Nat} {w : World} : (uO s oRos ros0).R (.agg zRos.toArray) w := by
  obtain ⟨S2, h2, h3⟩ := nil_oR (s := s) (w := w)
  exact ⟨S2, h2, _, _, fun _ => False, S2, rfl, ⟨none, 0, 0, [], ⟨_, rfl, .inl rfl⟩, rfl, Nat.le_refl _, Nat.zero_le _, by simp, rfl, (fun g e => by cases e), (fun _ => rfl), ls_nil⟩, h3, fun _ h => h.elim, fun _ h => h, fun _ h _ => h.elim⟩
/-- What the memory of one's own gives away. -/
theorem Sep.oRos {w0 w : World} {r : Ros} {vS vD : Value} {vs : List Value} {L0 : List Osl} {s : Nat} (h : Sep w0 (rsL r vS vD vs ++ L0) w) (hl : vs.length = r.D.length) (hs : s ≤ w0.heap.size) : (uO s Go.Proofs.Ytanlaggnhocjhaa.oRos r).R (.agg (rsC r vS vD).toArray) w := by
  unfold Sep at h
  obtain ⟨Bs, hbl, hc⟩ := h
  have hget : ∀ {j : Nat} {o : Osl}, (rsL r vS vD vs ++ L0)[j]? = some o → ∃ x, Bs[j]? = some x ∧ o.at x w ∧ BlkO w x ∧ ∀ b, x.1 = some b → s ≤ b ∧ b < w.heap.size := fun {j o} ho => by
    have hj : j < Bs.length := by rw [hbl]; exact (List.getElem?_eq_some_iff.1 ho).1
    have hx := List.getElem?_eq_getElem hj
    have hb := hc.blk _ (List.mem_of_getElem? hx)
    refine ⟨_, hx, hc.fct j o _ ho hx, hb, fun b e => ⟨Nat.le_trans hs (hc.lo b (List.mem_filterMap.2 ⟨_, List.mem_of_getElem? hx, e⟩)), ?_⟩⟩
    generalize Bs[j] = x at hb e
    obtain ⟨A, t, cs⟩ := x
    have e : A = some b := e
    subst e
    exact Blk.lt (hb : Blk w b t cs)
  let bk : Nat → Nat → Prop := fun j b => ∃ x, Bs[j]? = some x ∧ x.1 = some b
  have hinj : ∀ {j j' b}, bk j b → bk j' b → j = j' := fun {j j' b} ⟨x, hx, e⟩ ⟨y, hy, e'⟩ => nodup_far hc.nd hx hy e e'
  have hin : ∀ {j o b}, (rsL r vS vD vs ++ L0)[j]? = some o → bk j b → s ≤ b ∧ b < w.heap.size := fun {j o b} ho ⟨x, hx, e⟩ => by
    obtain ⟨y, hy, _, _, h4⟩ := hget ho
    rw [hx] at hy
    injection hy with hy
    subst hy
    exact h4 b e
  have h0 : (rsL r vS vD vs ++ L0)[0]? = some (.sl Spn 71 pSpn r.S vS) := rfl
  have h1 : (rsL r vS vD vs ++ L0)[1]? = some (.sl Value 39 pV vs vD) := rfl
  have hr : ∀ i : Nat, i < r.D.length → (rsL r vS vD vs ++ L0)[i + 2]? = some (.sl Int 3 pI (ix r.D i) (ix vs i)) := fun i hi => rsL_row hl hi
  refine ⟨fun b => s ≤ b ∧ b < w.heap.size, fun b h => h, vS, vD, bk 0, fun b => bk 1 b ∨ ∃ i, i < r.D.length ∧ bk (i + 2) b, rfl, ?_, ⟨vs, bk 1, fun i b => i < r.D.length ∧ bk (i + 2) b, ⟨?_, hl, fun i hi => ?_⟩, fun b hb => .inl hb, fun i b ⟨hi, hb⟩ => ⟨.inr ⟨i, hi, hb⟩, fun h' => ?_⟩, fun i j b hij ⟨_, hb⟩ ⟨_, hb'⟩ => ?_⟩, fun b hb => hin h0 hb, fun b hb => ?_, fun b hb hb' => ?_⟩
  · obtain ⟨x, hx, g1, g2, _⟩ := hget h0
    exact at_OS g1 g2 fun g e => ⟨x, hx, e⟩
  · obtain ⟨x, hx, g1, g2, _⟩ := hget h1
    exact at_OS g1 g2 fun g e => ⟨x, hx, e⟩
  · obtain ⟨x, hx, g1, g2, _⟩ := hget (hr i hi)
    exact at_OS g1 g2 fun g e => ⟨hi, x, hx, e⟩
  · have := hinj hb h'
    omega
  · have := hinj hb hb'
    omega
  · rcases hb with hb | ⟨i, hi, hb⟩
    · exact hin h1 hb
    · exact hin (hr i hi) hb
  · rcases hb' with hb' | ⟨i, hi, hb'⟩
    · have := hinj hb hb'
      omega
    · have := hinj hb hb'
      omega
def numRo (k : Int) (r : Ros) : Ros := ⟨numL numSpanS 2 k r.S.length, r.R, numR (k + 2 * r.S.length) r.D⟩
def kRos (k : Int) (r : Ros) : Int := kAt (k + 2 * r.S.length) r.D r.D.length
structure RosS (r : Ros) : Prop where
  s : (r.S.length : Int) ≤ 8
  d : (r.D.length : Int) ≤ 6
  r : ∀ i : Nat, i < r.D.length → ((ix r.D i).length : Int) ≤ 14
theorem RosS.of {r : Ros} (h : rosB r = true) : RosS r := by
  obtain ⟨h0, h1, h2, h3⟩ := rosB_t.1 h
  exact ⟨by omega, by omega, fun i hi => (rwB_t.1 (h2 i hi)).1.2⟩
theorem rosS_nil : RosS ros0 := ⟨by simp [ros0], by simp [ros0], fun i hi => by simp [ros0] at hi⟩
theorem kRos_bd {r : Ros} {k : Int} (h : RosS r) : k ≤ kRos k r ∧ kRos k r ≤ k + 100 := by
  have h1 := h.s
  have h2 := h.d
  have := kAt_bd (k := k + 2 * r.S.length) (c := 14) h.r (Nat.le_refl r.D.length)
  unfold kRos
  omega
theorem mk_RosO (r : Ros) (k : Int) (hk : 0 ≤ k ∧ k ≤ 1000) (hd : RosS r) : MK Try.prog 11 oRos r k (numRo k r) (kRos k r) := by
  have hds := hd.s
  have hdt := hd.d
  unfold MK
  intro w v S ⟨vS, vD, S1, S2, hv, h1, h2, hS1, hS2, hdis⟩
  subst hv
  let S1' : Nat → Prop := fun b => S1 b ∧ b < w.heap.size
  let S2' : Nat → Prop := fun b => S2 b ∧ b < w.heap.size
  let S' : Nat → Prop := fun b => S1' b ∨ S2' b
  have h1 : OS 71 pSpn r.S S1' vS w := h1.mono fun b hb hl => ⟨hb, hl⟩
  have h2 : oR.R r.D S2' vD w := oR_mono h2 fun b hb hl => ⟨hb, hl⟩
  have hS'lt : ∀ b, S' b → b < w.heap.size := fun b hb => hb.elim (·.2) (·.2)
  let D : Nat → List Spn → List (List Int) → World → Prop := fun g xs T w' => Keep S' w w' ∧ Blk w' g 32 (rsC r vS vD) ∧ OS 71 pSpn xs S1' vS w' ∧ oR.R T S2' vD w'
  have hD : ∀ g xs T, UpC (D g xs T) := fun g xs T _ _ h he => ⟨upC_keep _ _ h.1 he, h.2.1.ext he, (oF _ pSpn flSpn).keep _ _ (fun _ => False) _ _ _ h.2.2.1 (Keep.of_ext he) (fun _ _ h => h), oR.keep _ _ (fun _ => False) _ _ _ h.2.2.2 (Keep.of_ext he) (fun _ _ h => h)⟩
  have hc1 : ∀ g, w.heap.size ≤ g → CTX Try.prog 38 (D g r.S r.D) [.inl vS, .inl (.int .i64 k)] (fun _ : Unit => D g (numL numSpanS 2 k r.S.length) r.D) (fun _ => .inl (.int .i64 (k + 2 * r.S.length))) := by
    intro g hg w1 args hd1 hargs
    match args, hargs with
    | [a0, a1], ⟨ha0, ha1, _⟩ =>
      have ha0 : vS = a0 := (ha0 : a0 = vS).symm
      subst ha0
      obtain rfl : a1 = _ := ha1
      have hm := mk_SpanS r.S k ⟨by omega, by omega⟩
      unfold MK at hm
      refine (hm w1 vS S1' hd1.2.2.1).mono fun e w2 ⟨he, hk2, h3⟩ => ⟨_, he, (), ⟨hd1.1.trans (hk2.mono fun b hb => .inl hb), hk2.blk hd1.2.1 fun hb => ?_, h3, oR.keep _ _ _ _ _ _ hd1.2.2.2 hk2 fun b hb hb' => hdis b hb'.1 hb.1⟩, rfl⟩
      have := hb.2
      omega
  have hc2 : ∀ g, w.heap.size ≤ g → CTX Try.prog 39 (D g (numL numSpanS 2 k r.S.length) r.D) [.inl vD, .inl (.int .i64 (k + 2 * r.S.length))] (fun _ : Unit => D g (numL numSpanS 2 k r.S.length) (numR (k + 2 * r.S.length) r.D)) (fun _ => .inl (.int .i64 (kRos k r))) := by
    intro g hg w1 args hd1 hargs
    match args, hargs with
    | [a0, a1], ⟨ha0, ha1, _⟩ =>
      have ha0 : vD = a0 := (ha0 : a0 = vD).symm
      subst ha0
      obtain rfl : a1 = _ := ha1
      have hm := mk_Rows r.D (k + 2 * r.S.length) ⟨by omega, by omega, by omega⟩ (fun i hi => Int.le_trans (hd.r i hi) (by decide))
      unfold MK at hm
      refine (hm w1 vD S2' hd1.2.2.2).mono fun e w2 ⟨he, hk2, h3⟩ => ⟨_, he, (), ⟨hd1.1.trans (hk2.mono fun b hb => .inr hb), hk2.blk hd1.2.1 fun hb => ?_, (oF _ pSpn flSpn).keep _ _ _ _ _ _ hd1.2.2.1 hk2 fun b hb hb' => hdis b hb.1 hb'.1, h3⟩, rfl⟩
      have := hb.2
      omega
  have key : CTX Try.prog 11 (fun u => u = w) [.inl (.agg (rsC r vS vD).toArray), .inl (.int .i64 k)] (fun g : Nat => D g (numL numSpanS 2 k r.S.length) (numR (k + 2 * r.S.length) r.D)) (fun _ => .inl (.int .i64 (kRos k r))) := by
    refine CTX_of Try.func11 rfl rfl rfl ?_
    refine H_weakenC (C' := Ext w) (fun u hu => by subst hu; exact Ext.refl _) ?_
    have hC := upC_ext w
    try any_goals (first | (refine H_seq ?_; try refine H_reg ?_) | refine H_reg ?_)
    try any_goals (refine W_boxT (d := 2) (sq_stepper hC) (cs := rsC r vS vD) (s := w.heap.size) (fun w' h => h.size) rfl rfl rfl ?_)
    try any_goals (refine W_assign (d := 4) (sq_stepper hC) rfl rfl rfl ?_)
    try any_goals (first | (refine Sq_nil ?_; try refine G_then ?_) | refine G_then ?_)
    try any_goals (refine H_seq ?_)
    try any_goals (refine H_open 2 rfl (fun wr v2 hw hv2 => ?_); obtain ⟨g, rfl, hg, hbk⟩ := hv2; refine H_weakenC (C' := D g r.S r.D) (fun w' h => (⟨Keep.of_ext (hw.trans h), hbk.ext h, (oF _ pSpn flSpn).keep _ _ (fun _ => False) _ _ _ h1 (Keep.of_ext (hw.trans h)) (fun _ _ h => h), oR.keep _ _ (fun _ => False) _ _ _ h2 (Keep.of_ext (hw.trans h)) (fun _ _ h => h)⟩ : D g r.S r.D w')) ?_; have hC := hD g r.S r.D)
    try any_goals (refine H_reg ?_)
    try any_goals (first | refine W_fieldG (d := 5) (sq_stepper hC) (Proj.head _ _ _) (by kernel_rfl) rfl rfl rfl ?_ | refine W_fieldC (d := 5) (sq_stepper hC) (off := 0) (by kernel_rfl) rfl rfl rfl ?_)
    try any_goals (refine W_loadO (d := 6) (sq_stepper hC) (by kernel_rfl) rfl rfl rfl (fun w' h => Blk.cell h.2.1 rfl) ?_)
    try any_goals (refine W_move (d := 7) (sq_stepper hC) rfl rfl rfl ?_)
    try any_goals ((refine Sq_ctx (hc1 g hg) rfl rfl (by kernel_rfl) (fun _ => ?_); have hC := hD g (numL numSpanS 2 k r.S.length) r.D))
    try any_goals (refine W_assign (d := 1) (sq_stepper hC) rfl rfl rfl ?_)
    try any_goals (first | (refine Sq_nil ?_; try refine G_then ?_) | refine G_then ?_)
    try any_goals (first | (refine H_seq ?_; try refine H_reg ?_) | refine H_reg ?_)
    try any_goals (first | refine W_fieldG (d := 9) (sq_stepper hC) (Proj.tail _ _ (Proj.tail _ _ (Proj.head _ _ _))) (by kernel_rfl) rfl rfl rfl ?_ | refine W_fieldC (d := 9) (sq_stepper hC) (off := 4) (by kernel_rfl) rfl rfl rfl ?_)
    try any_goals (refine W_loadO (d := 10) (sq_stepper hC) (by kernel_rfl) rfl rfl rfl (fun w' h => Blk.cell h.2.1 rfl) ?_)
    try any_goals (refine W_move (d := 11) (sq_stepper hC) rfl rfl rfl ?_)
    try any_goals ((refine Sq_ctx (hc2 g hg) rfl rfl (by kernel_rfl) (fun _ => ?_); have hC := hD g (numL numSpanS 2 k r.S.length) (numR (k + 2 * r.S.length) r.D)))
    try any_goals (refine W_assign (d := 1) (sq_stepper hC) rfl rfl rfl ?_)
    try any_goals (first | (refine Sq_nil ?_; try refine G_then ?_) | refine G_then ?_)
    try any_goals (first | (refine H_seq ?_; try refine H_reg ?_) | refine H_reg ?_)
    try any_goals (refine W_move (d := 13) (sq_stepper hC) rfl rfl rfl ?_)
    try any_goals (refine W_assign (d := 4) (sq_stepper hC) rfl rfl rfl ?_)
    try any_goals (first | (refine Sq_nil ?_; try refine G_then ?_) | refine G_then ?_)
    try any_goals (refine H_ret ?_)
    repeat (any_goals (first | refine G_ret_then ?_ | refine G_ret_block ?_))
    all_goals first
      | exact RX1 rfl rfl (fun v w' hc hv => ⟨g, hc, hv⟩)
      | trace_state
  exact (key w [_, .int .i64 k] rfl ⟨rfl, rfl, trivial⟩).mono fun e w' ⟨u, he, g, hd1, hu⟩ => ⟨by rw [he, show u = _ from hu], hd1.1.mono fun b hb => hb.elim (fun h => hS1 b h.1) (fun h => hS2 b h.1), vS, vD, S1', S2', rfl, hd1.2.2.1, hd1.2.2.2, fun b hb => hS1 b hb.1, fun b hb => hS2 b hb.1, fun b hb hb' => hdis b hb.1 hb'.1⟩
theorem hd_RosO (r : Ros) (k : Int) (hk : 0 ≤ k ∧ k ≤ 1000) (hd : RosS r) : CT Try.prog 12 [.inr (uA bRos (numRo k r)), .inl (.int .i64 k)] (.inl (.int .i64 (kRos k r))) := by
  have hds := hd.s
  have hdt := hd.d
  have hb := kRos_bd (k := k) hd
  have hI := hd_SpanS (e := some 71) k r.S.length ⟨by omega, by omega⟩
  refine CT_of Try.func12 rfl rfl rfl (fun w => ?_)
  have hC := upC_ext w
  try any_goals (first | (refine H_seq ?_; try refine H_reg ?_) | refine H_reg ?_)
  try any_goals (refine W_boxA (d := 2) (sq_stepper hC) rfl rfl rfl ?_)
  try any_goals (refine W_assign (d := 4) (sq_stepper hC) rfl rfl rfl ?_)
  try any_goals (first | (refine Sq_nil ?_; try refine G_then ?_) | refine G_then ?_)
  try any_goals (first | (refine H_seq ?_; try refine H_reg ?_) | refine H_reg ?_)
  try any_goals (first | refine W_fieldG (d := 5) (sq_stepper hC) (Proj.head _ _ _) (by kernel_rfl) rfl rfl rfl ?_ | refine W_fieldC (d := 5) (sq_stepper hC) (off := 0) (by kernel_rfl) rfl rfl rfl ?_)
  try any_goals (refine W_loadS (d := 6) (sq_stepper hC) (by kernel_rfl) rfl rfl rfl ?_)
  try any_goals (refine W_move (d := 7) (sq_stepper hC) rfl rfl rfl ?_)
  try any_goals (refine W_ct (d := 8) (sq_stepper hC) (hI) rfl rfl rfl (by kernel_rfl) ?_)
  try any_goals (refine W_assign (d := 1) (sq_stepper hC) rfl rfl rfl ?_)
  try any_goals (first | (refine Sq_nil ?_; try refine G_then ?_) | refine G_then ?_)
  try any_goals (refine H_seq ?_)
  try any_goals (first | (refine H_seq ?_; try refine H_reg ?_) | refine H_reg ?_)
  try any_goals (refine W_move (d := 9) (sq_stepper hC) rfl rfl rfl ?_)
  try any_goals (first | refine W_cmp (d := 10) (sq_stepper hC) rfl rfl rfl rfl rfl ?_ | refine W_strcmp (d := 10) (sq_stepper hC) rfl rfl rfl rfl rfl ?_)
  try any_goals (first | (refine Sq_nil ?_; try refine G_then ?_) | refine G_then ?_)
  try any_goals (first | refine H_condT rfl ?_ | refine H_condF rfl ?_ | (refine H_cond _ rfl (fun hq => ?_) (fun hq => ?_) <;> (try simp only [hqs, reduceCtorEq] at hq)))
  try any_goals (first | ((exfalso; omega)) | skip)
  try any_goals (first | ((exfalso; unfold kRos at hb; omega)) | skip)
  try any_goals (first | (refine H_seq ?_; try refine H_reg ?_) | refine H_reg ?_)
  try any_goals (refine W_assign (d := 4) (sq_stepper hC) rfl rfl rfl ?_)
  try any_goals (first | (refine Sq_nil ?_; try refine G_then ?_) | refine G_then ?_)
  try any_goals (refine H_ret ?_)
  repeat (any_goals (first | refine G_ret_then ?_ | refine G_ret_block ?_))
  try any_goals (refine H_skip ?_)
  try any_goals (refine G_then ?_)
  try any_goals (first | (refine H_seq ?_; try refine H_reg ?_) | refine H_reg ?_)
  try any_goals (first | refine W_fieldG (d := 11) (sq_stepper hC) (Proj.tail _ _ (Proj.tail _ _ (Proj.head _ _ _))) (by kernel_rfl) rfl rfl rfl ?_ | refine W_fieldC (d := 11) (sq_stepper hC) (off := 2) (by kernel_rfl) rfl rfl rfl ?_)
  try any_goals (refine W_loadS (d := 12) (sq_stepper hC) (by kernel_rfl) rfl rfl rfl ?_)
  try any_goals (refine W_move (d := 13) (sq_stepper hC) rfl rfl rfl ?_)
  try any_goals (refine W_ct (d := 14) (sq_stepper hC) (hd_Rows r.D (k + 2 * r.S.length) ⟨by omega, by omega, by omega⟩ (fun i hi => Int.le_trans (hd.r i hi) (by decide))) rfl rfl rfl (by kernel_rfl) ?_)
  try any_goals (refine W_assign (d := 1) (sq_stepper hC) rfl rfl rfl ?_)
  try any_goals (first | (refine Sq_nil ?_; try refine G_then ?_) | refine G_then ?_)
  try any_goals (refine H_seq ?_)
  try any_goals (first | (refine H_seq ?_; try refine H_reg ?_) | refine H_reg ?_)
  try any_goals (refine W_move (d := 15) (sq_stepper hC) rfl rfl rfl ?_)
  try any_goals (first | refine W_cmp (d := 16) (sq_stepper hC) rfl rfl rfl rfl rfl ?_ | refine W_strcmp (d := 16) (sq_stepper hC) rfl rfl rfl rfl rfl ?_)
  try any_goals (first | (refine Sq_nil ?_; try refine G_then ?_) | refine G_then ?_)
  try any_goals (first | refine H_condT rfl ?_ | refine H_condF rfl ?_ | (refine H_cond _ rfl (fun hq => ?_) (fun hq => ?_) <;> (try simp only [hqs, reduceCtorEq] at hq)))
  try any_goals (first | ((exfalso; omega)) | skip)
  try any_goals (first | ((exfalso; unfold kRos at hb; omega)) | skip)
  try any_goals (first | (refine H_seq ?_; try refine H_reg ?_) | refine H_reg ?_)
  try any_goals (refine W_assign (d := 4) (sq_stepper hC) rfl rfl rfl ?_)
  try any_goals (first | (refine Sq_nil ?_; try refine G_then ?_) | refine G_then ?_)
  try any_goals (refine H_ret ?_)
  repeat (any_goals (first | refine G_ret_then ?_ | refine G_ret_block ?_))
  try any_goals (refine H_skip ?_)
  try any_goals (refine G_then ?_)
  try any_goals (first | (refine H_seq ?_; try refine H_reg ?_) | refine H_reg ?_)
  try any_goals (refine W_move (d := 17) (sq_stepper hC) rfl rfl rfl ?_)
  try any_goals (refine W_assign (d := 4) (sq_stepper hC) rfl rfl rfl ?_)
  try any_goals (first | (refine Sq_nil ?_; try refine G_then ?_) | refine G_then ?_)
  try any_goals (refine H_ret ?_)
  repeat (any_goals (first | refine G_ret_then ?_ | refine G_ret_block ?_))
  all_goals first
    | exact R1v rfl (fun _ h => h) rfl rfl
    | (exfalso; unfold kRos at hb; omega)
    | (exfalso; omega)
    | trace_state
theorem zRos_one : ∀ u ∈ zRos, u.oneCell' = true := by
  intro u hu
  simp only [zRos, List.mem_cons, List.not_mem_nil, or_false] at hu
  rcases hu with rfl | rfl | rfl | rfl | rfl <;> rfl
theorem ros_nil : ∀ w, bRos.φ ros0 zRos w := fun w => ⟨[_], _, rfl, ⟨_, rfl, isS_nil⟩, [.int .i64 0, .int .i64 0, .int .i64 0], _, rfl, pRul_i _ w, [_], _, rfl, ⟨_, rfl, isS_nil⟩, rfl⟩
end Go.Proofs.Ytanlaggnhocjhaa
