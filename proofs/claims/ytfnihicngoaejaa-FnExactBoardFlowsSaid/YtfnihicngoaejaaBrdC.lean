/- Boarding: the two functions as what is read from them. -/
import Derived.Test.YtfnihicngoaejaaBrdS
import Derived.Test.YtfnihicngoaejaaBrdI
namespace Go.Proofs.Ytfnihicngoaejaa
set_option linter.unusedSimpArgs false
set_option linter.unusedVariables false
open Go.RowKit Go.ChangeShapes Go.WideShapes Go.ChangeAt Go.Deep
structure IbR where
  B : List Bg
  L : List (List Int)
  W : List Int
def pIbR : Phi IbR := pCat IbR.B (pS (some 103) pBg) (pCat IbR.L (pS (some 51) (pS (some 3) pI)) (pCat IbR.W (pS (some 3) pI) pNil))
def ibR (t : Tab) (fs : List Flw) (cap : Int) : IbR := ⟨(bdO t fs cap fs.length).1.B, (bdO t fs cap fs.length).1.L, (bdO t fs cap fs.length).2⟩
def bdA (t : Tab) (fs : List Flw) (cap : Int) : Bool := tabB t && flowsB t fs && inB cap 0 1000
theorem bdA_t {t : Tab} {fs : List Flw} {cap : Int} (h : bdA t fs cap = true) : tabB t = true ∧ flowsB t fs = true ∧ 0 ≤ cap ∧ cap ≤ 1000 := by
  unfold bdA at h
  rw [Bool.and_eq_true, Bool.and_eq_true, inB_t] at h
  exact ⟨h.1.1, h.1.2, h.2⟩
theorem H_emR {P : Program} {C : World → Prop} {N : Nat} {K : List (Nat × Pr)} {Q : Exit → Act → World → Prop} (id : Nat) (p : Prop) {l : Array Oper} {b : Bool} (h1 : p → Hc P N K C (.region id l b) Q) (h2 : ¬ p → Hc P N K C (.region id l b) Q) : Hc P N K C (.region id l b) Q := by
  by_cases h : p
  · exact h1 h
  · exact h2 h
theorem ct_l20Board {e : Option TypeId} (t : Tab) (fs : List Flw) (cap : Int) (h : bdA t fs cap = true) : CT Try.prog 64 [.inr (uA bTab t), .inr (uS e pFlw fs), .inl (.int .i64 cap)] (.inr (uA pBdR (bdR t fs cap))) := by
  obtain ⟨hv, hf, hc⟩ := bdA_t h
  have hl := (bdO_ok hv hf hc.1 (Nat.le_refl _)).l
  refine CTX_ct (fun w => cx_l20Board t fs cap hv hf hc w) (fun w y v w' ⟨hS, hvl⟩ hR => ⟨hS.ext, ?_⟩)
  obtain rfl : v = _ := hR
  have hLS : IsS (some 51) (pS (some 3) pI) (bdO t fs cap fs.length).1.L y.vL w' := isS_rows (by omega) (hS.isS (m := 1) rfl) (fun i hi => hS.isS (m := i + 6) (rowsZ_get (by omega) hi))
  exact ⟨[y.vL, y.vW, _, _, y.vOn, y.vOff], rfl, [y.vL], _, rfl, ⟨_, rfl, hLS⟩, [y.vW], _, rfl, ⟨_, rfl, hS.isS (m := 5) rfl⟩, [_], _, rfl, rfl, [_], _, rfl, rfl, [y.vOn], _, rfl, ⟨_, rfl, hS.isS (m := 3) rfl⟩, [y.vOff], _, rfl, ⟨_, rfl, hS.isS (m := 4) rfl⟩, rfl⟩
theorem ct_iBoard {e : Option TypeId} (t : Tab) (fs : List Flw) (cap : Int) (h : bdA t fs cap = true) : CT Try.prog 66 [.inr (uA bTab t), .inr (uS e pFlw fs), .inl (.int .i64 cap)] (.inr (uA pIbR (ibR t fs cap))) := by
  obtain ⟨hv, hf, hc⟩ := bdA_t h
  have hl := (bdO_ok hv hf hc.1 (Nat.le_refl _)).l
  refine CTX_ct (fun w => cx_iBoard t fs cap hv hf hc w) (fun w y v w' ⟨hS, hvl⟩ hR => ⟨hS.ext, ?_⟩)
  obtain rfl : v = _ := hR
  have hLS : IsS (some 51) (pS (some 3) pI) (bdO t fs cap fs.length).1.L y.vL w' := isS_rows (by omega) (hS.isS (m := 2) rfl) (fun i hi => hS.isS (m := i + 5) (rowsZ_get (by omega) hi))
  exact ⟨[y.vB, y.vL, y.vW], rfl, [y.vB], _, rfl, ⟨_, rfl, hS.isS (m := 1) rfl⟩, [y.vL], _, rfl, ⟨_, rfl, hLS⟩, [y.vW], _, rfl, ⟨_, rfl, hS.isS (m := 4) rfl⟩, rfl⟩
theorem ct_l20Asked {e : Option TypeId} (t : Tab) (fs : List Flw) (cap : Int) : CT Try.prog 63 [.inr (uA bTab t), .inr (uS e pFlw fs), .inl (.int .i64 cap)] (.inl (.bool (bdA t fs cap))) := by
  refine CT_of Try.func63 rfl rfl rfl (fun w => ?_)
  have hC := upC_ext w
  try any_goals (first | (refine H_seq ?_; try refine H_reg ?_) | refine H_reg ?_)
  try any_goals (refine W_boxA (d := 3) (sq_stepper hC) rfl rfl rfl ?_)
  try any_goals (refine W_assign (d := 6) (sq_stepper hC) rfl rfl rfl ?_)
  try any_goals (first | (refine Sq_nil ?_; try refine G_then ?_) | refine G_then ?_)
  try any_goals (first | (refine H_seq ?_; try refine H_reg ?_) | refine H_reg ?_)
  try any_goals (refine W_loadA (d := 7) (sq_stepper hC) (by kernel_rfl) rfl rfl rfl ?_)
  try any_goals (refine W_move (d := 8) (sq_stepper hC) rfl rfl rfl ?_)
  try any_goals (refine W_ct (d := 9) (sq_stepper hC) (ct_l20Good _ _) rfl rfl rfl (by kernel_rfl) ?_)
  try any_goals (refine W_move (d := 10) (sq_stepper hC) rfl rfl rfl ?_)
  try any_goals (first | refine W_gT (d := 11) (sq_stepper hC) _ rfl rfl ?_ | refine W_gF (d := 11) (sq_stepper hC) _ rfl rfl ?_ | (refine W_splitG (sq_stepper hC) _ rfl _ rfl (fun hq => ?_) (fun hq => ?_) <;> ((try simp only [hqs, reduceCtorEq] at hq); try (have hq' := hq; clear hq))))
  try any_goals (first | refine W_skip (d := 11) (sq_stepper hC) rfl rfl ?_ | refine W_move (d := 11) (sq_stepper hC) rfl rfl rfl ?_)
  try any_goals (first | refine W_skip (d := 12) (sq_stepper hC) rfl rfl ?_ | refine W_ct (d := 12) (sq_stepper hC) (ct_l1In _ _ _) rfl rfl rfl (by kernel_rfl) ?_)
  try any_goals (first | refine W_pickT (d := 13) (sq_stepper hC) rfl rfl rfl rfl ?_ | refine W_pickF (d := 13) (sq_stepper hC) rfl rfl rfl rfl ?_)
  try any_goals (refine W_assign (d := 6) (sq_stepper hC) rfl rfl rfl ?_)
  try any_goals (first | (refine Sq_nil ?_; try refine G_then ?_) | refine G_then ?_)
  try any_goals (refine H_ret ?_)
  repeat (any_goals (first | refine G_ret_then ?_ | refine G_ret_block ?_))
  all_goals exact R1v rfl (fun _ h => h) rfl (congrArg Value.bool (by simp [bdA, *]))
theorem ct_areBoarding {e : Option TypeId} (t : Tab) (fs : List Flw) (cap : Int) : CT Try.prog 65 [.inr (uA bTab t), .inr (uS e pFlw fs), .inl (.int .i64 cap)] (.inl (.bool (bdA t fs cap))) := by
  refine CT_of Try.func65 rfl rfl rfl (fun w => ?_)
  have hC := upC_ext w
  try any_goals (first | (refine H_seq ?_; try refine H_reg ?_) | refine H_reg ?_)
  try any_goals (refine W_boxA (d := 3) (sq_stepper hC) rfl rfl rfl ?_)
  try any_goals (refine W_assign (d := 6) (sq_stepper hC) rfl rfl rfl ?_)
  try any_goals (first | (refine Sq_nil ?_; try refine G_then ?_) | refine G_then ?_)
  try any_goals (first | (refine H_seq ?_; try refine H_reg ?_) | refine H_reg ?_)
  try any_goals (refine W_loadA (d := 7) (sq_stepper hC) (by kernel_rfl) rfl rfl rfl ?_)
  try any_goals (refine W_move (d := 8) (sq_stepper hC) rfl rfl rfl ?_)
  try any_goals (refine W_ct (d := 9) (sq_stepper hC) (ct_iValidFlows _ _) rfl rfl rfl (by kernel_rfl) ?_)
  try any_goals (refine W_move (d := 10) (sq_stepper hC) rfl rfl rfl ?_)
  try any_goals (first | refine W_gT (d := 11) (sq_stepper hC) _ rfl rfl ?_ | refine W_gF (d := 11) (sq_stepper hC) _ rfl rfl ?_ | (refine W_splitG (sq_stepper hC) _ rfl _ rfl (fun hq => ?_) (fun hq => ?_) <;> ((try simp only [hqs, reduceCtorEq] at hq); try (have hq' := hq; clear hq))))
  try any_goals (first | refine W_skip (d := 11) (sq_stepper hC) rfl rfl ?_ | refine W_move (d := 11) (sq_stepper hC) rfl rfl rfl ?_)
  try any_goals (first | refine W_skip (d := 12) (sq_stepper hC) rfl rfl ?_ | refine W_ct (d := 12) (sq_stepper hC) (ct_within _ _ _) rfl rfl rfl (by kernel_rfl) ?_)
  try any_goals (first | refine W_pickT (d := 13) (sq_stepper hC) rfl rfl rfl rfl ?_ | refine W_pickF (d := 13) (sq_stepper hC) rfl rfl rfl rfl ?_)
  try any_goals (refine W_assign (d := 6) (sq_stepper hC) rfl rfl rfl ?_)
  try any_goals (first | (refine Sq_nil ?_; try refine G_then ?_) | refine G_then ?_)
  try any_goals (refine H_ret ?_)
  repeat (any_goals (first | refine G_ret_then ?_ | refine G_ret_block ?_))
  all_goals exact R1v rfl (fun _ h => h) rfl (congrArg Value.bool (by simp [bdA, *]))
end Go.Proofs.Ytfnihicngoaejaa
