/- Fleets of their own memory; marks in them. -/
import Derived.Test.YtanlaggnhocjhaaGreatFlt
import Derived.Test.YtanlaggnhocjhaaGreatSSM
namespace Go.Proofs.YtanlaggnhocjhaaGreat
set_option linter.unusedSimpArgs false
set_option linter.unusedVariables false
open Go.RowKit Go.ChangeShapes Go.WideShapes Go.ChangeAt Go.Deep
def fFlt : Fm Flt := fCat Flt.D (fS 37 fII) (fCat Flt.T fI fNil)
theorem cq_toFlt (b : Flt) (hf : FltF b) : CTG Tryz.prog 10 [.inr (uA aFlt b)] (fun s => .inr (uA ((fFlt).P (fun b => s ≤ b)) b)) := by
  refine CTG_of1V Tryz.func10 rfl rfl rfl (fun w s v0 hs hv0 => ?_)
  obtain ⟨cs0, rfl, hz0⟩ := hv0
  refine H_weakenC (C' := Cls w [] fun _ => True) (fun w' h => cls_ext w' h) ?_
  have hF : UpC (fun _ : World => True) := upC_true
  try any_goals ((refine H_seq ?_; try refine H_reg ?_))
  try any_goals (refine Sq_boxC (d := 1) hF rfl rfl (fun g1 hlo => ?_))
  try any_goals (refine Sq_allocC (d := 2) (n := 2) hF (by kernel_rfl) rfl (fun g2 cs2 hl2 hlo2 => ?_); obtain ⟨c2x0, c2x1, rfl⟩ := len2 hl2)
  try any_goals ((refine Sq_nil ?_; try refine G_then ?_))
  try any_goals ((refine H_seq ?_; try refine H_reg ?_))
  try any_goals (refine Sq_allocC (d := 3) (n := 2) hF (by kernel_rfl) rfl (fun g3 cs3 hl3 hlo3 => ?_); obtain ⟨c3x0, c3x1, rfl⟩ := len2 hl3)
  try any_goals ((refine Sq_nil ?_; try refine G_then ?_))
  try any_goals ((refine H_seq ?_; try refine H_reg ?_))
  try any_goals (refine W_fieldRC (d := 4) 2 (sq_stepper (upC_cls hF)) (Proj.head _ _ _) hz0 (by kernel_rfl) rfl rfl rfl rfl ?_)
  try any_goals (refine W_loadS (d := 5) (sq_stepper (upC_cls hF)) (by kernel_rfl) rfl rfl rfl ?_)
  try any_goals ((refine W_ctG (d := 6) (sq_stepper (upC_cls hF)) (cq_toIntSS _ hf.d hf.a) (fun w' h => Nat.le_trans hs (Cls.ext h).size) rfl rfl rfl (by kernel_rfl) ?_))
  try any_goals (refine W_fieldC (d := 7) (sq_stepper (upC_cls hF)) (off := 0) (by kernel_rfl) rfl rfl rfl ?_)
  try any_goals (refine Sq_storeE 0 (Ψ := (qS (fun b => s ≤ b) 37 (fII.P (fun b => s ≤ b)))) (by kernel_rfl) rfl rfl elem_Q rfl (Nat.le_of_ble_eq_true rfl) (by repeat (first | exact av_nil | exact av_I | exact av_B | exact av_Str | refine av_S (by decide) ?_ | refine av_cat ?_ ?_ | refine av_Q (by decide) ?_)) (by repeat (first | exact stF_true | exact stF_phi (by repeat (first | exact av_nil | exact av_I | exact av_B | exact av_Str | refine av_S (by decide) ?_ | refine av_cat ?_ ?_ | refine av_Q (by decide) ?_)) | refine stF_and ?_ ?_)) hF (fun vs hl hF => ?_); obtain ⟨v0x0, rfl⟩ := len1 hl)
  try any_goals ((refine Sq_nil ?_; try refine G_then ?_))
  try any_goals ((refine H_seq ?_; try refine H_reg ?_))
  try any_goals (refine W_fieldRC (d := 8) 2 (sq_stepper (upC_cls hF)) (Proj.tail _ _ (Proj.head _ _ _)) hz0 (by kernel_rfl) rfl rfl rfl rfl ?_)
  try any_goals (refine W_loadI (d := 9) (sq_stepper (upC_cls hF)) (by kernel_rfl) rfl rfl rfl ?_)
  try any_goals (refine W_fieldC (d := 10) (sq_stepper (upC_cls hF)) (off := 1) (by kernel_rfl) rfl rfl rfl ?_)
  try any_goals (refine Sq_storeE 0 (Ψ := pI) (by kernel_rfl) rfl rfl elem_I rfl (Nat.le_of_ble_eq_true rfl) (by repeat (first | exact av_nil | exact av_I | exact av_B | exact av_Str | refine av_S (by decide) ?_ | refine av_cat ?_ ?_ | refine av_Q (by decide) ?_)) (by repeat (first | exact stF_true | exact stF_phi (by repeat (first | exact av_nil | exact av_I | exact av_B | exact av_Str | refine av_S (by decide) ?_ | refine av_cat ?_ ?_ | refine av_Q (by decide) ?_)) | refine stF_and ?_ ?_)) hF (fun vs hl hF => ?_); obtain ⟨v1x0, rfl⟩ := len1 hl)
  try any_goals ((refine Sq_nil ?_; try refine G_then ?_))
  try any_goals ((refine H_seq ?_; try refine H_reg ?_))
  try any_goals (refine W_loadAC (d := 11) 0 (sq_stepper (upC_cls hF)) (vs := [v0x0, v1x0]) (by kernel_rfl) rfl rfl rfl rfl rfl (zadd fun j u h => h) ?_)
  try any_goals (refine Sq_storeAg 1 (vs := [v0x0, v1x0]) (by kernel_rfl) rfl rfl rfl (fun w' h => Phi.one ((fFlt).P (fun b => s ≤ b)) b _ w' ⟨[v0x0], [v1x0], rfl, h.1.2, [v1x0], [], rfl, h.2, rfl⟩) rfl (Nat.le_of_ble_eq_true rfl) (by repeat (first | exact stF_true | exact stF_phi (by repeat (first | exact av_nil | exact av_I | exact av_B | exact av_Str | refine av_S (by decide) ?_ | refine av_cat ?_ ?_ | refine av_Q (by decide) ?_)) | refine stF_and ?_ ?_)) ?_)
  try any_goals ((refine Sq_nil ?_; try refine G_then ?_))
  try any_goals (refine H_ret ?_)
  repeat (any_goals (first | refine G_ret_then ?_ | refine G_ret_block ?_))
  all_goals exact RcellC 1 rfl (by kernel_rfl) rfl rfl rfl (fun w' h => ⟨[v0x0, v1x0], rfl, ⟨[v0x0], [v1x0], rfl, h.fct.1.2, [v1x0], [], rfl, h.fct.2, rfl⟩⟩)
theorem mx_Flt : MKX Tryz.prog 20 (ShA fFlt.σ) 1099511627776 := by
  refine MKX_of Tryz.func20 rfl rfl rfl (fun w v S k hV hS hk => ?_)
  obtain ⟨cs, rfl, hφ⟩ := hV
  obtain ⟨_, _, rfl, ⟨u0, rfl, hu0⟩, _, _, rfl, ⟨u1, rfl⟩, rfl⟩ := hφ
  have hC : UpC (Tn S w) := upC_tn
  refine H_keep [(0, .inl (.agg (([u0, (Value.int .i64 u1)] : List Value)).toArray)), (1, .inl (.int .i64 k))] (by repeat (first | exact trivial | refine ⟨⟨_, rfl, fun _ _ _ h => h⟩, ?_⟩ | refine ⟨⟨_, rfl, fun v w _ h => (show v = _ from h).trans (congrArg (Value.int .i64) (by first | omega | (dsimp only; omega)))⟩, ?_⟩)) ?_
  try any_goals ((refine H_seq ?_; try refine H_reg ?_))
  try any_goals (refine W_boxT (d := 2) (sq_stepper hC) (cs := [u0, (Value.int .i64 u1)]) (s := w.heap.size) (fun w' h => h.keep.size) rfl rfl rfl ?_)
  try any_goals (refine W_assign (d := 4) (sq_stepper hC) rfl rfl rfl ?_)
  try any_goals ((refine Sq_nil ?_; try refine G_then ?_))
  try any_goals (refine H_seq ?_)
  try any_goals (refine H_open 2 rfl (fun wr v1 hw hv1 => ?_); obtain ⟨g, rfl, hg, hbk⟩ := hv1; refine H_weakenC (C' := Tn S wr) (fun w' h => Tn.of_ext h) ?_; have hu0 := hu0.up hw; have hS1 : ∀ b, S b → b < wr.heap.size := fun b hb => Nat.lt_of_lt_of_le (hS b hb) hw.keep.size; have hcg := fun (w' : World) (h : Tn S wr w') => h.keep.blk hbk (fun hs => absurd (hS g hs) (by omega)); have hC : UpC (Tn S wr) := upC_tn)
  try any_goals (refine H_reg ?_)
  try any_goals (refine W_fieldC (d := 5) (sq_stepper hC) (off := 0) (by kernel_rfl) rfl rfl rfl ?_)
  try any_goals (refine W_loadO (d := 6) (sq_stepper hC) (by kernel_rfl) rfl rfl rfl (fun w' h => (hcg w' h).cell rfl) ?_)
  try any_goals (refine W_move (d := 7) (sq_stepper hC) rfl rfl rfl ?_)
  try any_goals ((refine Sq_callM (k := k) mx_IntSS rfl (fun v w' h hv => by rw [show v = _ from hv]; exact hu0.up h) hS1 rfl rfl (by omega) (by kernel_rfl) (fun k0 hk0 => ?_); have hC : UpC (Tn S wr) := upC_tn))
  try any_goals (refine W_assign (d := 1) (sq_stepper hC) rfl rfl rfl ?_)
  try any_goals ((refine Sq_nil ?_; try refine G_then ?_))
  try any_goals ((refine H_seq ?_; try refine H_reg ?_))
  try any_goals (refine W_move (d := 9) (sq_stepper hC) rfl rfl rfl ?_)
  try any_goals (refine W_assign (d := 4) (sq_stepper hC) rfl rfl rfl ?_)
  try any_goals ((refine Sq_nil ?_; try refine G_then ?_))
  try any_goals (refine H_ret ?_)
  repeat (any_goals (first | refine G_ret_then ?_ | refine G_ret_block ?_))
  all_goals exact R_mkx rfl rfl (by omega) (fun _ h => hw.trans h)
end Go.Proofs.YtanlaggnhocjhaaGreat
