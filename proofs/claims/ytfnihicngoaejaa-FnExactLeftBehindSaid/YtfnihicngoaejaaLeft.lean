/- LeftBehind, both ways. -/
import Derived.Test.YtfnihicngoaejaaBrdC
namespace Go.Proofs.Ytfnihicngoaejaa
set_option linter.unusedSimpArgs false
set_option linter.unusedVariables false
open Go.RowKit Go.ChangeShapes Go.WideShapes Go.ChangeAt Go.Deep
def pOw (s : Nat) : Phi (List Int) := ⟨1, fun xs cs w => ∃ v, cs = [v] ∧ (uO s oIntS xs).R v w, fun _ _ _ _ he ⟨v, h, hs⟩ => ⟨v, h, (uO s oIntS _).up _ _ _ he hs⟩, (fun _ _ _ ⟨v, h, _⟩ => by rw [h]; rfl),
  (fun _ _ _ ⟨v, h, hs⟩ u hu => by
    rw [h] at hu
    simp at hu
    subst hu
    obtain ⟨S, _, A, n, c, cs, ⟨p, rfl, _⟩, _⟩ := hs
    rfl), fun _ => False, fun _ h => h.elim⟩
def pIbO (s : Nat) : Phi IbR := pCat IbR.B (pS (some 103) pBg) (pCat IbR.L (pS (some 51) (pS (some 3) pI)) (pCat IbR.W (pOw s) pNil))
section
variable {P : Program} {ops : Array Oper} {C : World → Prop} {N : Nat} {M : List (Nat × Pr) → List Oper → Prop} {K : List (Nat × Pr)} {rest : List Oper} {d : Nat} {ty : TypeId} {pos : String} {af : Array Edge} {g : Option (Nat × Bool)}
theorem W_fieldVO (hM : Stepper P ops C N M) {α : Type} {Φ : Phi α} {s : Nat} {z : α} {q : α → List Int} {x : Operand} {t : TypeId} {i off : Nat} (hp : Proj Φ off (pOw s) q) (hB : fieldV P t i off = true) (hg : wantedK ops K g = some true) (hN : Nat.blt d N = true) (hx : kn K x = some (.inr (uA Φ z)))
    (h : M ((d, .inr (uO s oIntS (q z))) :: K) rest) : M K (⟨some d, .field t x i, ty, pos, af, g⟩ :: rest) :=
  W_det hM _ hN hg (fun ρ w _ hk => by
    obtain ⟨cs, hv, hφ⟩ := hk x (by simp [Op.operands]) _ hx
    obtain ⟨c, hc, v, rfl, hs⟩ := hp _ _ _ hφ
    exact ⟨v, run_fieldV hB hv (by have := hc 0 v rfl; simpa using this), hs⟩) h
end
def lbR (t : Tab) (fs : List Flw) (cap : Int) : List Int := if bdA t fs cap then (bdO t fs cap fs.length).2 else []
theorem lbR_y {t : Tab} {fs : List Flw} {cap : Int} (h : bdA t fs cap = true) : lbR t fs cap = (bdO t fs cap fs.length).2 := by rw [lbR, h]; rfl
theorem lbR_n {t : Tab} {fs : List Flw} {cap : Int} (h : bdA t fs cap = false) : lbR t fs cap = [] := by rw [lbR, h]; rfl
theorem lbR_len {t : Tab} {fs : List Flw} {cap : Int} : (lbR t fs cap).length ≤ fs.length := by
  unfold lbR
  split
  · rw [bdO_left]; exact Nat.le_refl _
  · exact Nat.zero_le _
theorem cg_iBoard {e : Option TypeId} (t : Tab) (fs : List Flw) (cap : Int) (h : bdA t fs cap = true) : CTG Try.prog 66 [.inr (uA bTab t), .inr (uS e pFlw fs), .inl (.int .i64 cap)] (fun s => .inr (uA (pIbO s) (ibR t fs cap))) := by
  obtain ⟨hv, hf, hc⟩ := bdA_t h
  have hl := (bdO_ok hv hf hc.1 (Nat.le_refl _)).l
  refine CTX_ctg (fun w => cx_iBoard t fs cap hv hf hc w) (fun w s y v w' hs ⟨hS, hvl⟩ hR => ⟨hS.ext, ?_⟩)
  obtain rfl : v = _ := hR
  have hLS : IsS (some 51) (pS (some 3) pI) (bdO t fs cap fs.length).1.L y.vL w' := isS_rows (by omega) (hS.isS (m := 2) rfl) (fun i hi => hS.isS (m := i + 5) (rowsZ_get (by omega) hi))
  exact ⟨[y.vB, y.vL, y.vW], rfl, [y.vB], _, rfl, ⟨_, rfl, hS.isS (m := 1) rfl⟩, [y.vL], _, rfl, ⟨_, rfl, hLS⟩, [y.vW], _, rfl, ⟨_, rfl, hS.isO (m := 4) rfl hs⟩, rfl⟩
theorem ct_sLeft {e : Option TypeId} (t : Tab) (fs : List Flw) (cap : Int) : CT Try.prog 39 [.inr (uA bTab t), .inr (uS e pFlw fs), .inl (.int .i64 cap)] (.inr (uT [.inr (uS (some 3) pI (lbR t fs cap)), .inl (.bool (bdA t fs cap))])) := by
  refine CT_of Try.func39 rfl rfl rfl (fun w => ?_)
  have hC := upC_ext w
  have hA := ct_l20Asked (e := e) t fs cap
  cases h : bdA t fs cap
  · rw [h] at hA
    try any_goals (first | (refine H_seq ?_; try refine H_reg ?_) | refine H_reg ?_)
    try any_goals (refine W_boxA (d := 3) (sq_stepper hC) rfl rfl rfl ?_)
    try any_goals (refine W_assign (d := 6) (sq_stepper hC) rfl rfl rfl ?_)
    try any_goals (refine W_assign (d := 7) (sq_stepper hC) rfl rfl rfl ?_)
    try any_goals (first | (refine Sq_nil ?_; try refine G_then ?_) | refine G_then ?_)
    try any_goals (refine H_seq ?_)
    try any_goals (first | (refine H_seq ?_; try refine H_reg ?_) | refine H_reg ?_)
    try any_goals (refine W_loadA (d := 8) (sq_stepper hC) (by kernel_rfl) rfl rfl rfl ?_)
    try any_goals (refine W_move (d := 9) (sq_stepper hC) rfl rfl rfl ?_)
    try any_goals (refine W_move (d := 10) (sq_stepper hC) rfl rfl rfl ?_)
    try any_goals (refine W_ct (d := 11) (sq_stepper hC) (hA) rfl rfl rfl (by kernel_rfl) ?_)
    try any_goals (refine W_not (d := 12) (sq_stepper hC) rfl rfl rfl ?_)
    try any_goals (first | (refine Sq_nil ?_; try refine G_then ?_) | refine G_then ?_)
    try any_goals (first | refine H_condT rfl ?_ | refine H_condF rfl ?_ | (refine H_cond _ rfl (fun hq => ?_) (fun hq => ?_) <;> (try simp only [hqs, reduceCtorEq] at hq)))
    try any_goals (first | (refine H_seq ?_; try refine H_reg ?_) | refine H_reg ?_)
    try any_goals ((refine W_buildS (d := 13) (sq_stepper hC) [] pI [] (e := 3) (by kernel_rfl) (by kernel_rfl) rfl rfl (by kernel_rfl) rfl rfl rfl trivial ?_))
    try any_goals (refine W_assign (d := 6) (sq_stepper hC) rfl rfl rfl ?_)
    try any_goals (refine W_assign (d := 7) (sq_stepper hC) rfl rfl rfl ?_)
    try any_goals (first | (refine Sq_nil ?_; try refine G_then ?_) | refine G_then ?_)
    try any_goals (refine H_ret ?_)
    repeat (any_goals (first | refine G_ret_then ?_ | refine G_ret_block ?_))
    try any_goals (refine H_skip ?_)
    try any_goals (refine G_then ?_)
    try any_goals (first | (refine H_seq ?_; try refine H_reg ?_) | refine H_reg ?_)
    try any_goals (refine W_loadA (d := 14) (sq_stepper hC) (by kernel_rfl) rfl rfl rfl ?_)
    try any_goals (refine W_move (d := 15) (sq_stepper hC) rfl rfl rfl ?_)
    try any_goals (refine W_move (d := 16) (sq_stepper hC) rfl rfl rfl ?_)
    try any_goals (fail)
    try any_goals (first | refine W_fieldVS (d := 18) (sq_stepper hC) (Proj.tail _ _ (Proj.head _ _ _)) (by kernel_rfl) rfl rfl rfl ?_ | refine W_fieldV1 (d := 18) (sq_stepper hC) _ mk_I (Proj.tail _ _ (Proj.head _ _ _)) (by kernel_rfl) rfl rfl rfl ?_ | refine W_fieldV1 (d := 18) (sq_stepper hC) _ mk_B (Proj.tail _ _ (Proj.head _ _ _)) (by kernel_rfl) rfl rfl rfl ?_ | refine W_fieldV1 (d := 18) (sq_stepper hC) _ mk_Str (Proj.tail _ _ (Proj.head _ _ _)) (by kernel_rfl) rfl rfl rfl ?_)
    try any_goals (refine W_assign (d := 6) (sq_stepper hC) rfl rfl rfl ?_)
    try any_goals (refine W_assign (d := 7) (sq_stepper hC) rfl rfl rfl ?_)
    try any_goals (first | (refine Sq_nil ?_; try refine G_then ?_) | refine G_then ?_)
    try any_goals (refine H_ret ?_)
    repeat (any_goals (first | refine G_ret_then ?_ | refine G_ret_block ?_))
    all_goals first
      | exact R2 rfl (fun _ h => h) rfl rfl (fun v w' _ hv => by rw [lbR_n h]; exact hv) (fun v w' _ hv => hv)
      | exact R2 rfl (fun _ h => h) rfl rfl (fun v w' _ hv => by rw [lbR_n h, show v = _ from hv]; exact isS_nil) (fun v w' _ hv => hv)
      | trace_state
  · rw [h] at hA
    try any_goals (first | (refine H_seq ?_; try refine H_reg ?_) | refine H_reg ?_)
    try any_goals (refine W_boxA (d := 3) (sq_stepper hC) rfl rfl rfl ?_)
    try any_goals (refine W_assign (d := 6) (sq_stepper hC) rfl rfl rfl ?_)
    try any_goals (refine W_assign (d := 7) (sq_stepper hC) rfl rfl rfl ?_)
    try any_goals (first | (refine Sq_nil ?_; try refine G_then ?_) | refine G_then ?_)
    try any_goals (refine H_seq ?_)
    try any_goals (first | (refine H_seq ?_; try refine H_reg ?_) | refine H_reg ?_)
    try any_goals (refine W_loadA (d := 8) (sq_stepper hC) (by kernel_rfl) rfl rfl rfl ?_)
    try any_goals (refine W_move (d := 9) (sq_stepper hC) rfl rfl rfl ?_)
    try any_goals (refine W_move (d := 10) (sq_stepper hC) rfl rfl rfl ?_)
    try any_goals (refine W_ct (d := 11) (sq_stepper hC) (hA) rfl rfl rfl (by kernel_rfl) ?_)
    try any_goals (refine W_not (d := 12) (sq_stepper hC) rfl rfl rfl ?_)
    try any_goals (first | (refine Sq_nil ?_; try refine G_then ?_) | refine G_then ?_)
    try any_goals (first | refine H_condT rfl ?_ | refine H_condF rfl ?_ | (refine H_cond _ rfl (fun hq => ?_) (fun hq => ?_) <;> (try simp only [hqs, reduceCtorEq] at hq)))
    try any_goals (first | (refine H_seq ?_; try refine H_reg ?_) | refine H_reg ?_)
    try any_goals (refine W_buildS (d := 13) (sq_stepper hC) [] pI [] (e := 3) (by kernel_rfl) (by kernel_rfl) rfl rfl (by kernel_rfl) rfl rfl rfl trivial ?_)
    try any_goals (refine W_assign (d := 6) (sq_stepper hC) rfl rfl rfl ?_)
    try any_goals (refine W_assign (d := 7) (sq_stepper hC) rfl rfl rfl ?_)
    try any_goals (first | (refine Sq_nil ?_; try refine G_then ?_) | refine G_then ?_)
    try any_goals (refine H_ret ?_)
    repeat (any_goals (first | refine G_ret_then ?_ | refine G_ret_block ?_))
    try any_goals (refine H_skip ?_)
    try any_goals (refine G_then ?_)
    try any_goals (first | (refine H_seq ?_; try refine H_reg ?_) | refine H_reg ?_)
    try any_goals (refine W_loadA (d := 14) (sq_stepper hC) (by kernel_rfl) rfl rfl rfl ?_)
    try any_goals (refine W_move (d := 15) (sq_stepper hC) rfl rfl rfl ?_)
    try any_goals (refine W_move (d := 16) (sq_stepper hC) rfl rfl rfl ?_)
    try any_goals (refine W_ct (d := 17) (sq_stepper hC) (ct_l20Board _ _ _ h) rfl rfl rfl (by kernel_rfl) ?_)
    try any_goals (first | refine W_fieldVS (d := 18) (sq_stepper hC) (Proj.tail _ _ (Proj.head _ _ _)) (by kernel_rfl) rfl rfl rfl ?_ | refine W_fieldV1 (d := 18) (sq_stepper hC) _ mk_I (Proj.tail _ _ (Proj.head _ _ _)) (by kernel_rfl) rfl rfl rfl ?_ | refine W_fieldV1 (d := 18) (sq_stepper hC) _ mk_B (Proj.tail _ _ (Proj.head _ _ _)) (by kernel_rfl) rfl rfl rfl ?_ | refine W_fieldV1 (d := 18) (sq_stepper hC) _ mk_Str (Proj.tail _ _ (Proj.head _ _ _)) (by kernel_rfl) rfl rfl rfl ?_)
    try any_goals (refine W_assign (d := 6) (sq_stepper hC) rfl rfl rfl ?_)
    try any_goals (refine W_assign (d := 7) (sq_stepper hC) rfl rfl rfl ?_)
    try any_goals (first | (refine Sq_nil ?_; try refine G_then ?_) | refine G_then ?_)
    try any_goals (refine H_ret ?_)
    repeat (any_goals (first | refine G_ret_then ?_ | refine G_ret_block ?_))
    all_goals first
      | exact R2 rfl (fun _ h => h) rfl rfl (fun v w' _ hv => by rw [lbR_y h]; exact hv) (fun v w' _ hv => hv)
      | trace_state
theorem cg_iLeft {e : Option TypeId} (t : Tab) (fs : List Flw) (cap : Int) : CTG Try.prog 40 [.inr (uA bTab t), .inr (uS e pFlw fs), .inl (.int .i64 cap)] (fun s => .inr (uT [.inr (uO s oIntS (lbR t fs cap)), .inl (.bool (bdA t fs cap))])) := by
  refine CTG_of Try.func40 rfl rfl rfl (fun w s hs => ?_)
  have hC := upC_ext w
  have hA := ct_areBoarding (e := e) t fs cap
  cases h : bdA t fs cap
  · rw [h] at hA
    try any_goals (first | (refine H_seq ?_; try refine H_reg ?_) | refine H_reg ?_)
    try any_goals (refine W_boxA (d := 3) (sq_stepper hC) rfl rfl rfl ?_)
    try any_goals (refine W_assign (d := 6) (sq_stepper hC) rfl rfl rfl ?_)
    try any_goals (refine W_assign (d := 7) (sq_stepper hC) rfl rfl rfl ?_)
    try any_goals (first | (refine Sq_nil ?_; try refine G_then ?_) | refine G_then ?_)
    try any_goals (refine H_seq ?_)
    try any_goals (first | (refine H_seq ?_; try refine H_reg ?_) | refine H_reg ?_)
    try any_goals (refine W_loadA (d := 8) (sq_stepper hC) (by kernel_rfl) rfl rfl rfl ?_)
    try any_goals (refine W_move (d := 9) (sq_stepper hC) rfl rfl rfl ?_)
    try any_goals (refine W_move (d := 10) (sq_stepper hC) rfl rfl rfl ?_)
    try any_goals (refine W_ct (d := 11) (sq_stepper hC) (hA) rfl rfl rfl (by kernel_rfl) ?_)
    try any_goals (refine W_not (d := 12) (sq_stepper hC) rfl rfl rfl ?_)
    try any_goals (first | (refine Sq_nil ?_; try refine G_then ?_) | refine G_then ?_)
    try any_goals (first | refine H_condT rfl ?_ | refine H_condF rfl ?_ | (refine H_cond _ rfl (fun hq => ?_) (fun hq => ?_) <;> (try simp only [hqs, reduceCtorEq] at hq)))
    try any_goals (first | (refine H_seq ?_; try refine H_reg ?_) | refine H_reg ?_)
    try any_goals (refine W_assign (d := 6) (sq_stepper hC) rfl rfl rfl ?_)
    try any_goals (refine W_assign (d := 7) (sq_stepper hC) rfl rfl rfl ?_)
    try any_goals (first | (refine Sq_nil ?_; try refine G_then ?_) | refine G_then ?_)
    try any_goals (refine H_ret ?_)
    repeat (any_goals (first | refine G_ret_then ?_ | refine G_ret_block ?_))
    try any_goals (refine H_skip ?_)
    try any_goals (refine G_then ?_)
    try any_goals (first | (refine H_seq ?_; try refine H_reg ?_) | refine H_reg ?_)
    try any_goals (refine W_loadA (d := 13) (sq_stepper hC) (by kernel_rfl) rfl rfl rfl ?_)
    try any_goals (refine W_move (d := 14) (sq_stepper hC) rfl rfl rfl ?_)
    try any_goals (refine W_move (d := 15) (sq_stepper hC) rfl rfl rfl ?_)
    try any_goals (fail)
    try any_goals (first | refine W_fieldVS (d := 17) (sq_stepper hC) (Proj.tail _ _ (Proj.tail _ _ (Proj.head _ _ _))) (by kernel_rfl) rfl rfl rfl ?_ | refine W_fieldV1 (d := 17) (sq_stepper hC) _ mk_I (Proj.tail _ _ (Proj.tail _ _ (Proj.head _ _ _))) (by kernel_rfl) rfl rfl rfl ?_ | refine W_fieldV1 (d := 17) (sq_stepper hC) _ mk_B (Proj.tail _ _ (Proj.tail _ _ (Proj.head _ _ _))) (by kernel_rfl) rfl rfl rfl ?_ | refine W_fieldV1 (d := 17) (sq_stepper hC) _ mk_Str (Proj.tail _ _ (Proj.tail _ _ (Proj.head _ _ _))) (by kernel_rfl) rfl rfl rfl ?_)
    try any_goals (refine W_assign (d := 6) (sq_stepper hC) rfl rfl rfl ?_)
    try any_goals (refine W_assign (d := 7) (sq_stepper hC) rfl rfl rfl ?_)
    try any_goals (first | (refine Sq_nil ?_; try refine G_then ?_) | refine G_then ?_)
    try any_goals (refine H_ret ?_)
    repeat (any_goals (first | refine G_ret_then ?_ | refine G_ret_block ?_))
    all_goals exact R2 rfl (fun _ h => h) rfl rfl (fun v w' _ hv => by rw [lbR_n h, show v = _ from hv]; exact nil_OS) (fun v w' _ hv => hv)
  · rw [h] at hA
    try any_goals (first | (refine H_seq ?_; try refine H_reg ?_) | refine H_reg ?_)
    try any_goals (refine W_boxA (d := 3) (sq_stepper hC) rfl rfl rfl ?_)
    try any_goals (refine W_assign (d := 6) (sq_stepper hC) rfl rfl rfl ?_)
    try any_goals (refine W_assign (d := 7) (sq_stepper hC) rfl rfl rfl ?_)
    try any_goals (first | (refine Sq_nil ?_; try refine G_then ?_) | refine G_then ?_)
    try any_goals (refine H_seq ?_)
    try any_goals (first | (refine H_seq ?_; try refine H_reg ?_) | refine H_reg ?_)
    try any_goals (refine W_loadA (d := 8) (sq_stepper hC) (by kernel_rfl) rfl rfl rfl ?_)
    try any_goals (refine W_move (d := 9) (sq_stepper hC) rfl rfl rfl ?_)
    try any_goals (refine W_move (d := 10) (sq_stepper hC) rfl rfl rfl ?_)
    try any_goals (refine W_ct (d := 11) (sq_stepper hC) (hA) rfl rfl rfl (by kernel_rfl) ?_)
    try any_goals (refine W_not (d := 12) (sq_stepper hC) rfl rfl rfl ?_)
    try any_goals (first | (refine Sq_nil ?_; try refine G_then ?_) | refine G_then ?_)
    try any_goals (first | refine H_condT rfl ?_ | refine H_condF rfl ?_ | (refine H_cond _ rfl (fun hq => ?_) (fun hq => ?_) <;> (try simp only [hqs, reduceCtorEq] at hq)))
    try any_goals (first | (refine H_seq ?_; try refine H_reg ?_) | refine H_reg ?_)
    try any_goals (refine W_assign (d := 6) (sq_stepper hC) rfl rfl rfl ?_)
    try any_goals (refine W_assign (d := 7) (sq_stepper hC) rfl rfl rfl ?_)
    try any_goals (first | (refine Sq_nil ?_; try refine G_then ?_) | refine G_then ?_)
    try any_goals (refine H_ret ?_)
    repeat (any_goals (first | refine G_ret_then ?_ | refine G_ret_block ?_))
    try any_goals (refine H_skip ?_)
    try any_goals (refine G_then ?_)
    try any_goals (first | (refine H_seq ?_; try refine H_reg ?_) | refine H_reg ?_)
    try any_goals (refine W_loadA (d := 13) (sq_stepper hC) (by kernel_rfl) rfl rfl rfl ?_)
    try any_goals (refine W_move (d := 14) (sq_stepper hC) rfl rfl rfl ?_)
    try any_goals (refine W_move (d := 15) (sq_stepper hC) rfl rfl rfl ?_)
    try any_goals (refine W_ctG (d := 16) (sq_stepper hC) (s := s) (cg_iBoard _ _ _ h) (fun w' h => Nat.le_trans hs h.size) rfl rfl rfl (by kernel_rfl) ?_)
    try any_goals (first | refine W_fieldVO (d := 17) (sq_stepper hC) (Proj.tail _ _ (Proj.tail _ _ (Proj.head _ _ _))) (by kernel_rfl) rfl rfl rfl ?_ | refine W_fieldVS (d := 17) (sq_stepper hC) (Proj.tail _ _ (Proj.tail _ _ (Proj.head _ _ _))) (by kernel_rfl) rfl rfl rfl ?_ | refine W_fieldV1 (d := 17) (sq_stepper hC) _ mk_I (Proj.tail _ _ (Proj.tail _ _ (Proj.head _ _ _))) (by kernel_rfl) rfl rfl rfl ?_ | refine W_fieldV1 (d := 17) (sq_stepper hC) _ mk_B (Proj.tail _ _ (Proj.tail _ _ (Proj.head _ _ _))) (by kernel_rfl) rfl rfl rfl ?_ | refine W_fieldV1 (d := 17) (sq_stepper hC) _ mk_Str (Proj.tail _ _ (Proj.tail _ _ (Proj.head _ _ _))) (by kernel_rfl) rfl rfl rfl ?_)
    try any_goals (refine W_assign (d := 6) (sq_stepper hC) rfl rfl rfl ?_)
    try any_goals (refine W_assign (d := 7) (sq_stepper hC) rfl rfl rfl ?_)
    try any_goals (first | (refine Sq_nil ?_; try refine G_then ?_) | refine G_then ?_)
    try any_goals (refine H_ret ?_)
    repeat (any_goals (first | refine G_ret_then ?_ | refine G_ret_block ?_))
    all_goals first
      | exact R2 rfl (fun _ h => h) rfl rfl (fun v w' _ hv => by rw [lbR_y h]; exact hv) (fun v w' _ hv => hv)
      | trace_state
end Go.Proofs.Ytfnihicngoaejaa
